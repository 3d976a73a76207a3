/- The small logic, eighth text: how contracts are joined, loops, answers that leave the heap as it was, lists of integers in cells. No program is named here. And what follows. -/
import Derived.Test.YtpienljnoaendaaM1
import Derived.Test.YtpienljnoaendaaProg
import Derived.KernelRfl
import Derived.ChangeArms
import Derived.OpenShut
import Derived.DataReads
import Derived.RangeFuncBox
import Derived.RangeFuncLeaves
import Derived.Shelf.Abstract
import Derived.WalkKit
import Derived.OwnWalkIn
import Derived.TacticsInMore
import Derived.LoopNIn
import Derived.LoopIn
import Derived.Maps.AppendAt
import Derived.Sort.OwnSortedInts
import Derived.Laws.AppendOwn
import Derived.Shelf.SortM.Plain
import Derived.Shelf.SortM.SortNone
import Derived.Lib.SlicesCompact
set_option linter.unusedSimpArgs false
set_option linter.unusedVariables false
section
namespace Go.Abs
open Go Go.RowKit
def is (v0 : Value) (H0 : AH) (v : Value) (H : AH) : Prop := v = v0 ∧ H = H0
theorem ACalls.mono {P : Program} {f : FuncId} {args : List Value} {H : AH} {R R' : Value → AH → Prop} (h : ACalls P f args H R) (k : ∀ v H', R v H' → R' v H') : ACalls P f args H R' := by
  refine ⟨h.1, fun base ρ w args' hR hL => (h.2 base ρ w args' hR hL).mono ?_⟩
  rintro e w' ⟨v', v, H', ρ', rfl, hv, r⟩
  exact ⟨v', v, H', ρ', rfl, k _ _ hv, r⟩
theorem ACalls.to {P : Program} {f : FuncId} {args : List Value} {H H0 : AH} {v0 : Value} {R : Value → AH → Prop} (h : ACalls P f args H (is v0 H0)) (k : R v0 H0) : ACalls P f args H R :=
  h.mono fun v H' hh => by rw [hh.1, hh.2]; exact k
theorem ACalls.fin {P : Program} {f : FuncId} {args : List Value} {H : AH} {v0 : Value} {X : AH → Prop} {R : Value → AH → Prop} (h : ACalls P f args H (fun v H' => v = v0 ∧ X H')) (k : ∀ H', X H' → R v0 H') : ACalls P f args H R :=
  h.mono fun v H' hh => by obtain ⟨rfl, hx⟩ := hh; exact k _ hx
theorem ACalls.ex {P : Program} {f : FuncId} {args : List Value} {H : AH} {α : Type} {g : α → Value} {X : α → AH → Prop} {R : Value → AH → Prop} (h : ACalls P f args H (fun v H' => ∃ u, v = g u ∧ X u H')) (k : ∀ u H', X u H' → R (g u) H') : ACalls P f args H R :=
  h.mono fun v H' hh => by obtain ⟨u, rfl, hx⟩ := hh; exact k _ _ hx
theorem ACalls.wf {P : Program} {f : FuncId} {args : List Value} {H : AH} {R : Value → AH → Prop} (hc : callable P f = true) (h : (∀ i r, H.row i = some r → i < H.next) → ACalls P f args H R) : ACalls P f args H R :=
  ⟨hc, fun base ρ w args' hR hL => (h hR.scope).2 base ρ w args' hR hL⟩
/-! ### Going back to the heap of the call -/
theorem V1.back {ρ ρ' : Nat → Nat} {nx nx' : Nat} {w w' : World} {v u : Value} (h : V1 ρ nx w v u) : ∀ {v'}, V1 ρ' nx' w' v v' → V1 ρ' nx w' v v' := by
  induction h with
  | scal v h => intro v' k; cases k with
    | scal _ h => exact .scal _ h
    | ptr i o _ => simp [Abs.scal] at h
    | sle i o n c _ => simp [Abs.scal] at h
    | slu i o n c e o' c' _ _ _ => simp [Abs.scal] at h
    | func fn xs ys _ _ => simp [Abs.scal] at h
    | map i _ => simp [Abs.scal] at h
  | ptr i o h => intro v' k; cases k with
    | scal _ h => simp [Abs.scal] at h
    | ptr i o _ => exact .ptr i o h
  | sle i o n c h => intro v' k; cases k with
    | scal _ h => simp [Abs.scal] at h
    | sle i o n c _ => exact .sle i o n c h
  | slu i o n c e o' c' h hn hr => intro v' k; cases k with
    | scal _ h => simp [Abs.scal] at h
    | slu _ _ _ _ _ o2 c2 _ hn2 hr2 => exact .slu i o n c e o2 c2 h hn2 hr2
  | func fn xs ys hl h ih => intro v' k; cases k with
    | scal _ h => simp [Abs.scal] at h
    | func _ _ zs hl2 h2 =>
      refine .func fn xs zs hl2 fun j x z hx hz => ?_
      have hj : j < xs.size := (Array.getElem?_eq_some_iff.1 hx).1
      obtain ⟨y, hy⟩ : ∃ y, ys[j]? = some y := ⟨_, Array.getElem?_eq_getElem (by omega)⟩
      exact ih j x y hx hy (h2 j x z hx hz)
  | map i h => intro v' k; cases k with
    | scal _ h => simp [Abs.scal] at h
    | map _ _ => exact .map i h
theorem L1.back {ρ ρ' : Nat → Nat} {nx nx' : Nat} {w w' : World} {a b b' : List Value} (h : L1 ρ nx w a b) (k : L1 ρ' nx' w' a b') : L1 ρ' nx w' a b' := by
  refine ⟨k.1, fun j x y hx hy => ?_⟩
  obtain ⟨z, hz, hv⟩ := h.get hx
  exact hv.back (k.2 j x y hx hy)
theorem Rel.back {base : Nat} {ρ ρ' : Nat → Nat} {H H' : AH} {w w' : World} (R : Rel base ρ H w) (R' : Rel base ρ' H' w') (hle : LE H H') : Rel base ρ' H w' := by
  refine ⟨R.scope, fun i r hr hb => ?_, fun i r hr hb => ?_, fun i j r s hr hs => R'.inj i j r s (hle.row _ _ hr) (hle.row _ _ hs), R'.sz⟩
  · obtain ⟨h1, h2⟩ := R'.ro i r (hle.row _ _ hr) hb
    refine ⟨h1, fun j v hv ho => ?_⟩
    obtain ⟨v', hc, hV⟩ := h2 j v hv ho
    obtain ⟨_, k2⟩ := R.ro i r hr hb
    obtain ⟨u, _, hU⟩ := k2 j v hv ho
    exact ⟨v', hc, hU.back hV⟩
  · obtain ⟨h1, cs, hc, hL⟩ := R'.rwr i r (hle.row _ _ hr) hb
    obtain ⟨_, cs0, _, hL0⟩ := R.rwr i r hr hb
    exact ⟨h1, cs, hc, hL0.back hL⟩
def flat : Value → Bool
  | .agg xs => xs.all scal
  | .tuple xs => xs.all fun v => match v with | .agg ys => ys.all scal | v => scal v
  | v => scal v
theorem VR.flat {ρ : Nat → Nat} {nx nx' : Nat} {w : World} {v v' : Value} (hf : Abs.flat v = true) (h : VR ρ nx w v v') : VR ρ nx' w v v' := by
  have one : ∀ u u', Abs.scal u = true → V1 ρ nx w u u' → V1 ρ nx' w u u' := fun u u' hs k => (V1.scal (ρ := ρ) (nx := nx') (w := w) u hs).back k
  have agg : ∀ xs ys : Array Value, xs.all Abs.scal = true → xs.size = ys.size → (∀ (j : Nat) (x y : Value), xs[j]? = some x → ys[j]? = some y → V1 ρ nx w x y) → VR ρ nx' w (.agg xs) (.agg ys) := by
    intro xs ys ha hl hv
    refine .agg xs ys hl fun j x y hx hy => one _ _ ?_ (hv j x y hx hy)
    obtain ⟨hj, rfl⟩ := Array.getElem?_eq_some_iff.1 hx
    exact (Array.all_eq_true.1 ha) j hj
  cases h with
  | one k =>
    refine .one (one _ _ ?_ k)
    cases k <;> simp_all [Abs.flat, Abs.scal]
  | agg xs ys hl hv => exact agg xs ys hf hl hv
  | tuple xs ys hl hv =>
    refine .tuple xs ys hl fun j x y hx hy => ?_
    obtain ⟨hj, rfl⟩ := Array.getElem?_eq_some_iff.1 hx
    have h1 := (Array.all_eq_true.1 hf) j hj
    have k := hv j _ y hx hy
    revert h1 k
    generalize xs[j] = x
    intro h1 k
    cases k with
    | one k => exact .one (one _ _ (by cases k <;> simp_all [Abs.scal]) k)
    | agg us bs hl2 hv2 => exact agg us bs h1 hl2 hv2
    | tuple us bs hl2 hv2 => simp [Abs.scal] at h1
theorem acalls_pure {P : Program} {f : FuncId} {args : List Value} {H : AH} {v0 : Value} (hf : flat v0 = true) (h : ACalls P f args H (fun v H' => v = v0 ∧ LE H H')) : ACalls P f args H (is v0 H) := by
  refine ⟨h.1, fun base ρ w args' hR hL => (h.2 base ρ w args' hR hL).mono ?_⟩
  rintro e w' ⟨v', v, H', ρ', rfl, ⟨rfl, hle⟩, R', hV, E⟩
  exact ⟨v', v, H, ρ', rfl, ⟨rfl, rfl⟩, hR.back R' hle, hV.flat hf, ⟨Nat.le_refl _, E.ag, E.bl, E.st⟩⟩
/-! ### What stays below a bound -/
structure Up (b : Nat) (H H' : AH) : Prop where
  next : H.next ≤ H'.next
  row : ∀ i, i < b → H'.row i = H.row i
theorem Up.refl (b : Nat) (H : AH) : Up b H H := ⟨Nat.le_refl _, fun _ _ => rfl⟩
theorem Up.trans {b b' : Nat} {A B C : AH} (h : Up b A B) (k : Up b' B C) (hb : b ≤ b') : Up b A C := ⟨Nat.le_trans h.next k.next, fun i hi => (k.row i (by omega)).trans (h.row i hi)⟩
theorem Up.push {b : Nat} {A H : AH} (h : Up b A H) (hb : b ≤ H.next) (r : Row) : Up b A (H.push r) := ⟨Nat.le_trans h.next (Nat.le_succ _), fun i hi => by rw [AH.push_row, if_neg (by omega)]; exact h.row i hi⟩
theorem Up.set {b : Nat} {A H : AH} (h : Up b A H) {i : Nat} (hi : b ≤ i) (cs : List Value) : Up b A (H.setCells i cs) := ⟨h.next, fun j hj => by rw [AH.setCells_row, if_neg (by omega)]; exact h.row j hj⟩
theorem Up.le {H H' : AH} (h : Up H.next H H') (hs : ∀ i r, H.row i = some r → i < H.next) : LE H H' := ⟨h.next, fun i r hr => by rw [h.row i (hs i r hr)]; exact hr⟩
theorem acalls_up {P : Program} {f : FuncId} {args : List Value} {H : AH} {v0 : Value} (hf : flat v0 = true) (h : ACalls P f args H (fun v H' => v = v0 ∧ Up H.next H H')) : ACalls P f args H (is v0 H) := by
  refine acalls_pure hf (ACalls.wf h.1 fun hs => h.mono fun v H' hh => ⟨hh.1, hh.2.le hs⟩)
/-! ### Loops, cuts -/
def Holds (p : Prop) : Prop := p
theorem holds_def (p : Prop) : Holds p = p := (rfl)
theorem Holds.mp {p : Prop} (h : Holds p) : p := h
theorem awp_loop {P : Program} {c : Code} {Q : Exit → T → AH → Prop} {t : T} {H : AH} (I : Nat → T → AH → Prop) (n : Nat) (h0 : I n t H)
    (hs : ∀ n t H, I n t H → Holds (awp P c (seqQ (fun t' H' => ∃ m, m < n ∧ I m t' H') Q) t H)) : awp P (.loop c) Q t H := ⟨I, ⟨n, h0⟩, hs⟩
theorem runOut_mono' {P : Program} {H : AH} {K K' : Value → AH → Prop} (hk : ∀ v H', K v H' → K' v H') : ∀ o : Out, runOut P H o K → runOut P H o K'
  | .val v H', h => hk _ _ h
  | .unit H', h => hk _ _ h
  | .call f a, h => ACalls.mono h hk
  | .need p o, h => ⟨h.1, runOut_mono' hk o h.2⟩
  | .stuck, h => h.elim
theorem condW_mono' {v : Value} {b : Bool} {A A' B B' : Prop} (h : condW v b A B) (ha : A → A') (hb : B → B') : condW v b A' B' := by
  unfold condW at *
  split at h
  · split at h
    · rename_i hh; rw [if_pos hh]; exact ha h
    · rename_i hh; rw [if_neg hh]; exact hb h
  · split at h
    · rename_i hh; rw [if_pos hh]; exact hb h
    · exact h.elim
  · exact h.elim
theorem awpOps_mono {P : Program} {all : List Oper} {Q Q' : T → AH → Prop} (hq : ∀ t H, Q t H → Q' t H) : ∀ (os : List Oper) (t : T) (H : AH), awpOps P all Q os t H → awpOps P all Q' os t H
  | [], t, H, h => hq t H h
  | o :: os, t, H, h => by
    unfold awpOps at h ⊢
    cases hg : o.guard with
    | none => rw [hg] at h; exact runOut_mono' (fun v H' k => awpOps_mono hq os _ _ k) _ h
    | some g => rw [hg] at h; exact condW_mono' h (runOut_mono' (fun v H' k => awpOps_mono hq os _ _ k) _) (awpOps_mono hq os _ _)
theorem seqQ_mono {A A' : T → AH → Prop} {Q Q' : Exit → T → AH → Prop} (ha : ∀ t H, A t H → A' t H) (hq : ∀ e t H, Q e t H → Q' e t H) : ∀ e t H, seqQ A Q e t H → seqQ A' Q' e t H := by
  intro e t H h; cases e with
  | normal => exact ha _ _ h
  | _ => exact hq _ _ _ h
theorem blockQ_mono {id : Nat} {Q Q' : Exit → T → AH → Prop} (hq : ∀ e t H, Q e t H → Q' e t H) : ∀ e t H, blockQ id Q e t H → blockQ id Q' e t H := by
  intro e t H h; cases e with
  | exit i =>
    simp only [blockQ] at h ⊢
    by_cases hh : i = id
    · rw [if_pos hh] at h ⊢; exact hq _ _ _ h
    · rw [if_neg hh] at h ⊢; exact hq _ _ _ h
  | _ => exact hq _ _ _ h
theorem awp_mono {P : Program} : ∀ (c : Code) (Q Q' : Exit → T → AH → Prop) (t : T) (H : AH), (∀ e t H, Q e t H → Q' e t H) → awp P c Q t H → awp P c Q' t H
  | .skip, Q, Q', t, H, hq, h => hq _ _ _ h
  | .region _ ops false, Q, Q', t, H, hq, h => awpOps_mono (hq .normal) _ _ _ h
  | .region id ops true, Q, Q', t, H, hq, h => by
    intro base ρ w tmps QC hS hd hQ
    exact h base ρ w tmps QC hS hd fun e t' H' ρ' w' tmps' k => hQ e t' H' ρ' w' tmps' (seqQ_mono (fun _ _ => hq _ _ _) (fun _ _ _ f => f.elim) _ _ _ k)
  | .seq a b, Q, Q', t, H, hq, h => awp_mono a _ _ t H (seqQ_mono (fun t H => awp_mono b Q Q' t H hq) hq) h
  | .cond c a b, Q, Q', t, H, hq, h => by
    unfold awp at h ⊢
    unfold condC at h ⊢
    split at h
    · split at h
      · rename_i hh; rw [if_pos hh]; exact awp_mono a _ _ t H hq h
      · rename_i hh; rw [if_neg hh]; exact awp_mono b _ _ t H hq h
    · exact h.elim
  | .block id c, Q, Q', t, H, hq, h => awp_mono c _ _ t H (blockQ_mono hq) h
  | .loop c, Q, Q', t, H, hq, h => by
    obtain ⟨I, h0, hs⟩ := h
    exact ⟨I, h0, fun n t H k => awp_mono c _ _ t H (seqQ_mono (fun _ _ k => k) hq) (hs n t H k)⟩
  | .exit id, Q, Q', t, H, hq, h => hq _ _ _ h
  | .ret, Q, Q', t, H, hq, h => hq _ _ _ h
  | .rangeFunc _ _ _ _, _, _, _, _, _, h => by simp [awp] at h
  | .scope _, _, _, _, _, _, h => by simp [awp] at h
  | .goto _, _, _, _, _, _, h => by simp [awp] at h
  | .label _, _, _, _, _, _, h => by simp [awp] at h
  | .refuse _, _, _, _, _, _, h => by simp [awp] at h
theorem condC_dec {p : Prop} [Decidable p] {A B : Prop} (ha : p → A) (hb : ¬p → B) : condC (some (.bool (decide p))) A B := by
  by_cases h : p
  · simp only [condC, h, decide_true, if_true]; exact ha h
  · simp only [condC, h, decide_false]; exact hb h
theorem condC_true (A B : Prop) : condC (some (.bool true)) A B = A := (rfl)
theorem condC_false (A B : Prop) : condC (some (.bool false)) A B = B := (rfl)
theorem condW_tt (A B : Prop) : condW (.bool true) true A B = A := (rfl)
theorem condW_tf (A B : Prop) : condW (.bool true) false A B = B := (rfl)
theorem condW_ft (A B : Prop) : condW (.bool false) true A B = B := (rfl)
theorem condW_ff (A B : Prop) : condW (.bool false) false A B = A := (rfl)
theorem seqQ_normal (A : T → AH → Prop) (Q : Exit → T → AH → Prop) (t : T) (H : AH) : seqQ A Q .normal t H = A t H := (rfl)
theorem seqQ_ret (A : T → AH → Prop) (Q : Exit → T → AH → Prop) (t : T) (H : AH) : seqQ A Q .ret t H = Q .ret t H := (rfl)
theorem seqQ_exit (A : T → AH → Prop) (Q : Exit → T → AH → Prop) (i : Nat) (t : T) (H : AH) : seqQ A Q (.exit i) t H = Q (.exit i) t H := (rfl)
theorem blockQ_normal (id : Nat) (Q : Exit → T → AH → Prop) (t : T) (H : AH) : blockQ id Q .normal t H = Q .normal t H := (rfl)
theorem blockQ_ret (id : Nat) (Q : Exit → T → AH → Prop) (t : T) (H : AH) : blockQ id Q .ret t H = Q .ret t H := (rfl)
theorem blockQ_exit (id : Nat) (Q : Exit → T → AH → Prop) (i : Nat) (t : T) (H : AH) : blockQ id Q (.exit i) t H = if i = id then Q .normal t H else Q (.exit i) t H := (rfl)
theorem retQ_ret (P : Program) (rs : List ResultVar) (R : Value → AH → Prop) (t : T) (H : AH) : retQ P rs R .ret t H = ∃ v, resV P rs t H = some v ∧ R v H := (rfl)
theorem retQ_normal (P : Program) (rs : List ResultVar) (R : Value → AH → Prop) (t : T) (H : AH) : retQ P rs R .normal t H = ∃ v, resV P rs t H = some v ∧ R v H := (rfl)
/-! ### Lists of integers -/
def ints (l : List Int) : List Value := l.map (.int .i64)
theorem ints_length (l : List Int) : (ints l).length = l.length := by simp [ints]
theorem ints_get? (l : List Int) (i : Nat) (h : i < l.length) : (ints l)[i]? = some (.int .i64 (l.getD i 0)) := by simp [ints, h]
theorem ints_set (l : List Int) (i : Nat) (x : Int) : (ints l).set i (.int .i64 x) = ints (l.set i x) := by simp [ints, List.map_set]
theorem ints_append (a b : List Int) : ints a ++ ints b = ints (a ++ b) := by simp [ints]
theorem ints_seg (l : List Int) (o n : Nat) : seg (ints l) o n = ints ((l.drop o).take n) := by simp [ints, seg, List.map_take, List.map_drop]
theorem ints_zero (n : Nat) : List.replicate n (Value.int .i64 0) = ints (List.replicate n 0) := by simp [ints]
theorem seg_all (l : List Value) (n : Nat) (h : n = l.length) : seg l 0 n = l := by subst h; simp [seg]
theorem splice_all (l m : List Value) (h : l.length = m.length) : splice l 0 m = m := by simp [splice, ← h]
/-! ### Places, parts, cells of what is written out -/
theorem placeT_array (P : Program) (n : Nat) (e : TypeId) : placeT P (.array n e) = (ti P e).bind fun E => some (fun i => some (i * E.size, E.size)) := (rfl)
theorem placeT_struct (P : Program) (fs : List (Nat × TypeId)) : placeT P (.struct fs) = (placesOf P fs).bind fun ps => some (fun i => ps[i]?) := (rfl)
theorem placesOf_nil (P : Program) : placesOf P [] = some [] := (rfl)
theorem placesOf_cons (P : Program) (o : Nat) (t : TypeId) (fs : List (Nat × TypeId)) : placesOf P ((o, t) :: fs) = (ti P t).bind fun I => (placesOf P fs).bind fun ps => some ((o, I.size) :: ps) := (rfl)
theorem fillL_nil (place : Nat → Option (Nat × Nat)) (cs : List Value) : fillL place cs [] = some cs := (rfl)
theorem fillL_cons (place : Nat → Option (Nat × Nat)) (cs : List Value) (i : Nat) (v : Value) (rest : List (Nat × Value)) : fillL place cs ((i, v) :: rest) = (place i).bind fun p =>
      if v.cells.size = p.2 ∧ p.1 + p.2 ≤ cs.length ∧ noTuple v = true then fillL place (splice cs p.1 v.cells.toList) rest else none := (rfl)
theorem cells_int (k : IntKind) (n : Int) : (Value.int k n).cells = #[.int k n] := (rfl)
theorem cells_bool (b : Bool) : (Value.bool b).cells = #[.bool b] := (rfl)
theorem cells_slice (a : Option Addr) (n c : Nat) : (Value.slice a n c).cells = #[.slice a n c] := (rfl)
theorem cells_str (s : ByteArray) : (Value.string s).cells = #[.string s] := (rfl)
theorem cells_agg (xs : Array Value) : (Value.agg xs).cells = xs := (rfl)
theorem noTuple_int (k : IntKind) (n : Int) : noTuple (.int k n) = true := (rfl)
theorem noTuple_bool (b : Bool) : noTuple (.bool b) = true := (rfl)
theorem noTuple_slice (a : Option Addr) (n c : Nat) : noTuple (.slice a n c) = true := (rfl)
theorem noTuple_str (s : ByteArray) : noTuple (.string s) = true := (rfl)
theorem noTuple_agg (xs : Array Value) : noTuple (.agg xs) = true := (rfl)
theorem one_int (k : IntKind) (n : Int) : (Value.int k n).oneCell' = true := (rfl)
theorem one_bool (b : Bool) : (Value.bool b).oneCell' = true := (rfl)
theorem one_slice (a : Option Addr) (n c : Nat) : (Value.slice a n c).oneCell' = true := (rfl)
theorem one_str (s : ByteArray) : (Value.string s).oneCell' = true := (rfl)
theorem one_ptr (a : Option Addr) : (Value.pointer a).oneCell' = true := (rfl)
theorem one_func (f : Fn) (a b : Array Value) : (Value.func f a b).oneCell' = true := (rfl)
theorem splice_nil0 (l : List Value) : splice l 0 [] = l := by simp [splice]
theorem splice_cons0 (x : Value) (l : List Value) (v : Value) (vs : List Value) : splice (x :: l) 0 (v :: vs) = v :: splice l 0 vs := by simp [splice]
theorem splice_succ (x : Value) (l : List Value) (o : Nat) (vs : List Value) : splice (x :: l) (o + 1) vs = x :: splice l o vs := by
  simp [splice, Nat.add_right_comm]
theorem seg_zero (l : List Value) (o : Nat) : seg l o 0 = [] := by simp [seg]
theorem seg_cons0 (x : Value) (l : List Value) (n : Nat) : seg (x :: l) 0 (n + 1) = x :: seg l 0 n := by simp [seg]
theorem seg_succ (x : Value) (l : List Value) (o n : Nat) : seg (x :: l) (o + 1) n = seg l o n := by simp [seg]
theorem seg_ints14 (l : List Int) (h : l.length = 14) : seg (ints l) 0 14 = ints l := seg_all _ _ (by rw [ints_length, h])
theorem splice_ints14 (l m : List Int) (h : l.length = 14) (h' : m.length = 14) : splice (ints l) 0 (ints m) = ints m := splice_all _ _ (by rw [ints_length, ints_length, h, h'])
def resC (I : TI) (H : AH) (v : Value) : Option Value := match v with
    | .pointer (some ⟨i, o, none⟩) => (H.row i).bind fun r => if I.d.isAgg = true then (if o + I.size ≤ r.cells.length ∧ r.rw = true then some (.agg (seg r.cells o I.size).toArray) else none) else (if r.rw = true then r.cells[o]? else none)
    | _ => none
theorem res1_cell (P : Program) (t : T) (H : AH) (a : Nat) (ty : TypeId) : res1 P t H (.cell a ty) = (ti P ty).bind fun I => resC I H (t a) := (rfl)
theorem resC_ptr (I : TI) (H : AH) (i o : Nat) : resC I H (.pointer (some ⟨i, o, none⟩)) = (H.row i).bind fun r => if I.d.isAgg = true then (if o + I.size ≤ r.cells.length ∧ r.rw = true then some (.agg (seg r.cells o I.size).toArray) else none) else (if r.rw = true then r.cells[o]? else none) := (rfl)
theorem add_n2 (a : Nat) : a + 1 + 1 = a + 2 := (rfl)
theorem add_n3 (a : Nat) : a + 2 + 1 = a + 3 := (rfl)
theorem add_n4 (a : Nat) : a + 3 + 1 = a + 4 := (rfl)
theorem add_n5 (a : Nat) : a + 4 + 1 = a + 5 := (rfl)
theorem add_n6 (a : Nat) : a + 5 + 1 = a + 6 := (rfl)
theorem add_n7 (a : Nat) : a + 6 + 1 = a + 7 := (rfl)
theorem add_n8 (a : Nat) : a + 7 + 1 = a + 8 := (rfl)
theorem add_n9 (a : Nat) : a + 8 + 1 = a + 9 := (rfl)
theorem add_n10 (a : Nat) : a + 9 + 1 = a + 10 := (rfl)
theorem add_n11 (a : Nat) : a + 10 + 1 = a + 11 := (rfl)
theorem add_n12 (a : Nat) : a + 11 + 1 = a + 12 := (rfl)
theorem ok_rw (ty : TypeId) (cs vs : List Value) : Row.ok ⟨ty, true, cs⟩ vs = True := by simp [Row.ok]
theorem ok_int (r : Row) (k : IntKind) (n : Int) : Row.ok r [.int k n] = True := by simp [Row.ok, Value.oneCell']
theorem ok_bool (r : Row) (b : Bool) : Row.ok r [.bool b] = True := by simp [Row.ok, Value.oneCell']
theorem ok_str (r : Row) (s : ByteArray) : Row.ok r [.string s] = True := by simp [Row.ok, Value.oneCell']
theorem ok_slice (r : Row) (a : Option Addr) (n c : Nat) : Row.ok r [.slice a n c] = True := by simp [Row.ok, Value.oneCell']
theorem ok_ints (r : Row) (l : List Int) : Row.ok r (ints l) = True := by simp [Row.ok, ints, Value.oneCell']
theorem w64 {n : Int} (h : -9223372036854775808 ≤ n ∧ n ≤ 9223372036854775807) : IntKind.i64.wrap n = n := by
  unfold IntKind.wrap
  simp only [IntKind.bits, IntKind.signed]
  simp only [Bool.true_and, decide_eq_true_eq, Nat.reduceSub, Int.reducePow]
  split
  · rename_i hh; have hh' : (9223372036854775808 : Int) ≤ n % 18446744073709551616 := of_decide_eq_true hh; omega
  · rename_i hh; have hh' : ¬ (9223372036854775808 : Int) ≤ n % 18446744073709551616 := fun k => hh (decide_eq_true k); omega
end Go.Abs
end

section
namespace Go.Abs
open Go Go.RowKit
def Rd (k : Nat) (H : AH) (v : Value) (n : Nat) (l : List Int) : Prop :=
  l.length = n * k ∧ ((n = 0 ∧ ∃ a c, v = .slice a 0 c ∧ (a = none → c = 0)) ∨ ∃ i o u c r, v = .slice (some ⟨i, o, u⟩) n c ∧ H.row i = some r ∧ o + n * k ≤ r.cells.length ∧ seg r.cells o (n * k) = ints l)
def Fr (k : Nat) (ty : TypeId) (lo hi : Nat) (H : AH) (v : Value) (n : Nat) (l : List Int) : Prop :=
  l.length = n * k ∧ ((n = 0 ∧ v = .slice none 0 0) ∨ ∃ i, lo ≤ i ∧ i < hi ∧ v = .slice (some ⟨i, 0, some k⟩) n n ∧ H.row i = some ⟨ty, true, ints l⟩)
theorem Fr.rd {k ty lo hi n : Nat} {H : AH} {v : Value} {l : List Int} (h : Fr k ty lo hi H v n l) : Rd k H v n l := by
  refine ⟨h.1, ?_⟩
  rcases h.2 with h2 | ⟨i, h1, h2, rfl, hr⟩
  · exact .inl ⟨h2.1, none, 0, h2.2, fun _ => rfl⟩
  · exact .inr ⟨i, 0, some k, n, _, rfl, hr, by rw [ints_length, h.1]; omega, seg_all _ _ (by rw [ints_length, h.1])⟩
theorem Fr.same {k ty lo hi n : Nat} {H H' : AH} {v : Value} {l : List Int} (h : Fr k ty lo hi H v n l) (hs : ∀ i, lo ≤ i → i < hi → H'.row i = H.row i) : Fr k ty lo hi H' v n l := by
  refine ⟨h.1, ?_⟩
  rcases h.2 with h2 | ⟨i, h1, h2, hv, hr⟩
  · exact .inl h2
  · exact .inr ⟨i, h1, h2, hv, by rw [hs i h1 h2]; exact hr⟩
theorem Fr.wide {k ty lo hi lo' hi' n : Nat} {H : AH} {v : Value} {l : List Int} (h : Fr k ty lo hi H v n l) (h1 : lo' ≤ lo) (h2 : hi ≤ hi') : Fr k ty lo' hi' H v n l := by
  refine ⟨h.1, ?_⟩
  rcases h.2 with h3 | ⟨i, h3, h4, hv, hr⟩
  · exact .inl h3
  · exact .inr ⟨i, by omega, by omega, hv, hr⟩
theorem Rd.same {k n : Nat} {H H' : AH} {v : Value} {l : List Int} (h : Rd k H v n l) (hs : ∀ i r, H.row i = some r → H'.row i = some r) : Rd k H' v n l := by
  refine ⟨h.1, ?_⟩
  rcases h.2 with h2 | ⟨i, o, u, c, r, hv, hr, h3⟩
  · exact .inl h2
  · exact .inr ⟨i, o, u, c, r, hv, hs _ _ hr, h3⟩
theorem Rd.len {k n : Nat} {H : AH} {v : Value} {l : List Int} (h : Rd k H v n l) (H' : AH) : asSl v (.val (.int .i64 0) H') (fun _ _ _ n _ => .val (.int .i64 (n : Int)) H') = .val (.int .i64 (n : Int)) H' := by
  rcases h.2 with ⟨rfl, a, c, rfl, _⟩ | ⟨i, o, u, c, r, rfl, hr, h3⟩
  · cases a <;> rfl
  · rfl
theorem Rd.get {k n : Nat} {H : AH} {v : Value} {l : List Int} (h : Rd k H v n l) (hn : 0 < n) :
    ∃ i o u c r, v = .slice (some ⟨i, o, u⟩) n c ∧ H.row i = some r ∧ o + n * k ≤ r.cells.length ∧ (∀ j, j < n * k → r.cells[o + j]? = some (.int .i64 (l.getD j 0))) ∧
      (∀ j m, j + m ≤ n * k → seg r.cells (o + j) m = ints ((l.drop j).take m)) := by
  rcases h.2 with ⟨rfl, _⟩ | ⟨i, o, u, c, r, rfl, hr, h3, h4⟩
  · omega
  · have key : ∀ j, j < n * k → r.cells[o + j]? = (ints l)[j]? := by
      intro j hj
      rw [← h4]; simp [seg, hj]
    refine ⟨i, o, u, c, r, rfl, hr, h3, fun j hj => ?_, fun j m hjm => ?_⟩
    · rw [key j hj, ints_get? l j (by rw [h.1]; exact hj)]
    · rw [← ints_seg, ← h4]
      apply List.ext_getElem?
      intro x
      simp only [seg, List.getElem?_take, List.getElem?_drop]
      by_cases hx : x < m
      · rw [if_pos hx, if_pos hx, if_pos (by omega)]
        congr 1; omega
      · rw [if_neg hx, if_neg hx]
theorem Rd.one {k n : Nat} {H : AH} {v : Value} {l : List Int} (h : Rd k H v n l) : v.oneCell' = true := by
  rcases h.2 with ⟨_, a, c, rfl, _⟩ | ⟨i, o, u, c, r, rfl, _⟩ <;> rfl
theorem Fr.get {k ty lo hi n : Nat} {H : AH} {v : Value} {l : List Int} (h : Fr k ty lo hi H v n l) (hn : 0 < n) :
    ∃ i, lo ≤ i ∧ i < hi ∧ v = .slice (some ⟨i, 0, some k⟩) n n ∧ H.row i = some ⟨ty, true, ints l⟩ := by
  rcases h.2 with ⟨h3, _⟩ | h3
  · omega
  · exact h3
theorem Fr.set {k ty lo hi n i : Nat} {H : AH} {l l' : List Int} (h : Fr k ty lo hi H (.slice (some ⟨i, 0, some k⟩) n n) n l) (hr : H.row i = some ⟨ty, true, ints l⟩) (h1 : lo ≤ i) (h2 : i < hi) (hl : l'.length = l.length) :
    Fr k ty lo hi (H.setCells i (ints l')) (.slice (some ⟨i, 0, some k⟩) n n) n l' :=
  ⟨by rw [hl]; exact h.1, .inr ⟨i, h1, h2, rfl, by rw [AH.setCells_row, if_pos rfl, hr]; rfl⟩⟩
def seqL (a : Int) (n : Nat) : List Int := (List.range n).map fun (i : Nat) => a + i
theorem seqL_length (a : Int) (n : Nat) : (seqL a n).length = n := by simp [seqL]
theorem seqL_getD (a : Int) (n i : Nat) (h : i < n) : (seqL a n).getD i 0 = a + i := by simp [seqL, h]
theorem zeros_zero (z : List Value) : zeros 0 z = [] := by simp [zeros]
theorem appE_fr {P : Program} {E : TI} {k ty lo hi n c : Nat} {H : AH} {v : Value} {l m : List Int} {K : Value → AH → Prop} (h : Fr k ty lo hi H v n l) (hk : E.size = k) (hk0 : 0 < k) (hm : m.length = c * k) (hc : 0 < c) (hb : E.bytes ≤ 32768) (hn : n + c ≤ 4294967296) (hhi : hi ≤ H.next)
    (hK : ∀ v' H', H'.next = H.next + 1 → (∀ i, ¬(lo ≤ i ∧ i < hi) → i < H.next → H'.row i = H.row i) → Fr k ty H.next (H.next + 1) H' v' (n + c) (l ++ m) → K v' H') :
    runOut P H (appE E ty v (ints m) c H) K := by
  subst hk
  have hl := h.1
  unfold appE
  rw [if_neg (by omega)]
  rcases h.2 with ⟨rfl, rfl⟩ | ⟨i, h1, h2, rfl, hr⟩
  · simp only [asSl_nil, runOut_need, runOut_val]
    have : l = [] := List.eq_nil_of_length_eq_zero (by omega)
    subst this
    refine ⟨⟨by omega, hb⟩, hK _ _ rfl (fun i _ hi => by rw [AH.push_row, if_neg (by omega)]) ⟨by simp [hm], .inr ⟨H.next, by omega, by omega, by simp, by rw [AH.push_row, if_pos rfl]; rfl⟩⟩⟩
  · simp only [asSl_some, hr, bindO_some, runOut_need, Nat.zero_add, ints_length, hl]
    refine ⟨⟨by omega, hb, Nat.le_refl _, .inl rfl⟩, ?_⟩
    rw [if_neg (by rw [Nat.add_mul]; have := Nat.mul_pos hc hk0; omega)]
    simp only [runOut_need, runOut_val]
    refine ⟨⟨trivial, trivial, hk0, trivial, trivial⟩, hK _ _ rfl (fun j hj hj2 => ?_) ⟨by simp [hm, hl, Nat.add_mul], .inr ⟨H.next, by omega, by omega, rfl, ?_⟩⟩⟩
    · rw [AH.push_row, if_neg (by rw [AH.drop_next]; omega), AH.drop_row, if_neg (by omega)]
    · rw [AH.push_row, AH.drop_next, if_pos rfl, seg_all _ _ (by rw [ints_length, hl]), ints_append]
theorem zeros_ints (n k : Nat) : zeros n (ints (List.replicate k 0)) = ints (List.replicate (n * k) 0) := by
  unfold zeros
  induction n with
  | zero => simp [ints]
  | succ n ih =>
    rw [List.replicate_succ, List.flatten_cons, ih, ints_append, List.replicate_append_replicate, Nat.succ_mul, Nat.add_comm]
end Go.Abs
end

section
set_option maxRecDepth 100000
set_option linter.defProp false
namespace Go.Abs
open Go Go.RowKit
def Sall := And.intro (And.intro (And.intro (And.intro (And.intro (And.intro (And.intro (@awp_skip) (@awp_ret)) (And.intro (@awp_exit) (And.intro (@awp_seq) (@awp_cond)))) (And.intro (And.intro (@awp_block) (And.intro (@awp_region) (@awpOps_cons))) (And.intro (@awpOps_guard) (And.intro (@awpOps_nil) (@evo_tmp))))) (And.intro (And.intro (And.intro (@evo_int) (@evo_bool)) (And.intro (@evo_func) (And.intro (@evo_nil) (@evo_str)))) (And.intro (And.intro (@evs_nil) (And.intro (@evs_cons) (@evp_nil))) (And.intro (@evp_cons) (And.intro (@bindO_some) (@asI_int)))))) (And.intro (And.intro (And.intro (And.intro (@asB_bool) (@asP_ptr)) (And.intro (@asSl_nil) (And.intro (@asSl_some) (@asAgg_agg)))) (And.intro (And.intro (@asTup_tup) (And.intro (@asStr_str) (@asFn_fn))) (And.intro (@asCells_agg) (And.intro (@asCells_int) (@asCells_bool))))) (And.intro (And.intro (And.intro (@asCells_slice) (@asCells_str)) (And.intro (@asCells_fn) (And.intro (@asCells_ptr) (@slT_sl)))) (And.intro (And.intro (@stT_st) (And.intro (@oI_none) (@oI_some))) (And.intro (@runOut_val) (And.intro (@runOut_unit) (@runOut_call))))))) (And.intro (And.intro (And.intro (And.intro (And.intro (@runOut_need) (@condW_tt)) (And.intro (@condW_tf) (And.intro (@condW_ft) (@condW_ff)))) (And.intro (And.intro (@condW_undef) (And.intro (@condC_true) (@condC_false))) (And.intro (@updO_some) (And.intro (@updO_none) (@upd_apply))))) (And.intro (And.intro (And.intro (@seqQ_normal) (@seqQ_ret)) (And.intro (@seqQ_exit) (And.intro (@blockQ_normal) (@blockQ_ret)))) (And.intro (And.intro (@blockQ_exit) (And.intro (@retQ_ret) (@retQ_normal))) (And.intro (@resL_nil) (And.intro (@resL_cons) (@res1_tmp)))))) (And.intro (And.intro (And.intro (And.intro (@pack_0) (@pack_1)) (And.intro (@pack_2) (And.intro (@AH.push_row) (@AH.push_next)))) (And.intro (And.intro (@AH.setCells_row) (And.intro (@AH.setCells_next) (@AH.drop_row))) (And.intro (@AH.drop_next) (And.intro (@List.getD_cons_zero.{0}) (@List.getD_cons_succ.{0}))))) (And.intro (And.intro (And.intro (@List.getD_nil.{0}) (And.intro (@List.getElem?_cons_zero.{0}) (@List.getElem?_cons_succ.{0}))) (And.intro (@Option.bind_some.{0, 0}) (And.intro (@Option.some.injEq.{0}) (And.intro (@exists_eq_left'.{0}) (@exists_eq_left'.{1}))))) (And.intro (And.intro (@Bool.false_eq_true) (And.intro (@true_and) (@and_true))) (And.intro (@List.toList_toArray.{0}) (And.intro (@List.cons_append.{0}) (@List.nil_append.{0})))))))) (And.intro (And.intro (And.intro (And.intro (And.intro (And.intro (@placeT_array) (@placeT_struct)) (And.intro (@placesOf_nil) (And.intro (@placesOf_cons) (@fillL_nil)))) (And.intro (And.intro (@fillL_cons) (And.intro (@cells_int) (@cells_bool))) (And.intro (@cells_slice) (And.intro (@cells_str) (@cells_agg))))) (And.intro (And.intro (And.intro (@noTuple_int) (@noTuple_bool)) (And.intro (@noTuple_slice) (And.intro (@noTuple_str) (@noTuple_agg)))) (And.intro (And.intro (@one_int) (And.intro (@one_bool) (@one_slice))) (And.intro (@one_str) (And.intro (@one_ptr) (@one_func)))))) (And.intro (And.intro (And.intro (And.intro (@splice_nil0) (@splice_cons0)) (And.intro (@splice_succ) (And.intro (@seg_zero) (@seg_cons0)))) (And.intro (And.intro (@seg_succ) (And.intro (@seg_ints14) (@splice_ints14))) (And.intro (@ints_zero) (And.intro (@ints_length) (@List.length_replicate.{0}))))) (And.intro (And.intro (And.intro (@List.length_cons.{0}) (And.intro (@List.length_nil.{0}) (@Nat.zero_add))) (And.intro (@Nat.add_zero) (And.intro (@Nat.zero_mul) (@Nat.mul_one)))) (And.intro (And.intro (@Nat.one_mul) (And.intro (@List.size_toArray.{0}) (@and_self))) (And.intro (@Nat.le_refl) (And.intro (@Option.map_some.{0, 0}) (And.intro (@ite_true.{0}) (@ite_true.{1})))))))) (And.intro (And.intro (And.intro (And.intro (And.intro (And.intro (@ite_false.{0}) (@ite_false.{1})) (@res1_cell)) (And.intro (@resC_ptr) (And.intro (@Nat.left_eq_add) (@Nat.add_eq_left)))) (And.intro (And.intro (@Nat.succ_ne_self) (And.intro (@Nat.add_left_cancel_iff) (@Nat.add_right_cancel_iff))) (And.intro (@awpD_nil) (And.intro (@awpD_cons) (@awpD_guard))))) (And.intro (And.intro (And.intro (@true_or) (And.intro (@ne_eq.{0}) (@ne_eq.{1}))) (And.intro (@Nat.one_ne_zero) (And.intro (@not_false_eq_true) (@Int.toNat_natCast)))) (And.intro (And.intro (@Value.int.injEq) (And.intro (@Value.bool.injEq) (And.intro (@implies_true.{0}) (@implies_true.{1})))) (And.intro (@awpI_nil) (And.intro (@awpI_cons) (@stepI_op)))))) (And.intro (And.intro (And.intro (And.intro (@stepI_guard) (@add_n2)) (And.intro (@add_n3) (And.intro (@add_n4) (@add_n5)))) (And.intro (And.intro (@add_n6) (And.intro (@add_n7) (@add_n8))) (And.intro (@add_n9) (And.intro (@add_n10) (@add_n11))))) (And.intro (And.intro (And.intro (@add_n12) (And.intro (@ok_rw) (@ok_int))) (And.intro (@ok_bool) (And.intro (@ok_str) (@ok_slice)))) (And.intro (And.intro (@ok_ints) (And.intro (@holds_def) (@List.set_cons_zero.{0}))) (And.intro (@List.set_cons_succ.{0}) (And.intro (@Bool.not_true) (@Bool.not_false))))))))
def L3 := And.intro (@ints_length) (And.intro (@List.length_replicate.{0}) (@List.length_set.{0}))
end Go.Abs
end

section
namespace Go.Proofs.Ytpienljnoaendaa.A
open Go Go.Abs Go.RowKit
theorem ti2 : ti Try.prog 2 = some ⟨.int .i64, 1, 8, [.int .i64 0]⟩ := by kernel_rfl
theorem ti3 : ti Try.prog 3 = some ⟨.int .i64, 1, 8, [.int .i64 0]⟩ := by kernel_rfl
theorem ti4 : ti Try.prog 4 = some ⟨.bool, 1, 1, [.bool false]⟩ := by kernel_rfl
theorem ti29 : ti Try.prog 29 = some ⟨.slice 2, 1, 24, [.slice none 0 0]⟩ := by kernel_rfl
theorem ti24 : ti Try.prog 24 = some ⟨.slice 29, 1, 24, [.slice none 0 0]⟩ := by kernel_rfl
theorem ti129 : ti Try.prog 129 = some ⟨.other, 1, 8, [.nilFunc]⟩ := by kernel_rfl
theorem ti58 : ti Try.prog 58 = some ⟨.slice 4, 1, 24, [.slice none 0 0]⟩ := by kernel_rfl
theorem tiA : ti Try.prog 2 = some ⟨.int .i64, 1, 8, [.int .i64 0]⟩ ∧ ti Try.prog 3 = some ⟨.int .i64, 1, 8, [.int .i64 0]⟩ ∧ ti Try.prog 4 = some ⟨.bool, 1, 1, [.bool false]⟩ ∧ ti Try.prog 29 = some ⟨.slice 2, 1, 24, [.slice none 0 0]⟩ ∧ ti Try.prog 24 = some ⟨.slice 29, 1, 24, [.slice none 0 0]⟩ ∧ ti Try.prog 129 = some ⟨.other, 1, 8, [.nilFunc]⟩ ∧ ti Try.prog 58 = some ⟨.slice 4, 1, 24, [.slice none 0 0]⟩ := ⟨ti2, ti3, ti4, ti29, ti24, ti129, ti58⟩
theorem listed (a b : Nat) : a + b = b + a ∧ True := by
  simp only [Sall,evalOp,init,binA_s,binE,binI,unE,convE,okNil,builtE,gv,TD.isAgg,resV,↓reduceIte,Nat.reduceEqDiff,reduceCtorEq,Nat.reduceAdd,Nat.reduceMul,Nat.reduceLeDiff,quietOp,blindOp,Int.reduceEq,Int.reduceLT,Int.reduceLE,Nat.reduceLT, tiA]
  exact Nat.add_comm a b
end Go.Proofs.Ytpienljnoaendaa.A
end

section
namespace Go.Proofs.Ytpienljnoaendaa.A
open Go Go.Abs Go.RowKit
theorem ti46 : ti Try.prog 46 = some ⟨.other, 1, 8, [.nilFunc]⟩ := by kernel_rfl
theorem ti5 : ti Try.prog 5 = some ⟨.int .u8, 1, 1, [.int .u8 0]⟩ := by kernel_rfl
theorem ti76 : ti Try.prog 76 = some ⟨.int .u64, 1, 8, [.int .u64 0]⟩ := by kernel_rfl
theorem ti61 : ti Try.prog 61 = some ⟨.int .u64, 1, 8, [.int .u64 0]⟩ := by kernel_rfl
theorem ti22 : ti Try.prog 22 = some ⟨.slice 5, 1, 24, [.slice none 0 0]⟩ := by kernel_rfl
theorem ti63 : ti Try.prog 63 = some ⟨.struct [(0, 22), (1, 3), (2, 61)], 3, 40, [.slice none 0 0, .int .i64 0, .int .u64 0]⟩ := by kernel_rfl
theorem ti26 : ti Try.prog 26 = some ⟨.struct [(0, 2), (1, 2), (2, 24)], 3, 40, [.int .i64 0, .int .i64 0, .slice none 0 0]⟩ := by kernel_rfl
theorem ti9 : ti Try.prog 9 = some ⟨.str, 1, 16, [.string ByteArray.empty]⟩ := by kernel_rfl
theorem tiXA : ti Try.prog 46 = some ⟨.other, 1, 8, [.nilFunc]⟩ ∧ ti Try.prog 5 = some ⟨.int .u8, 1, 1, [.int .u8 0]⟩ ∧ ti Try.prog 76 = some ⟨.int .u64, 1, 8, [.int .u64 0]⟩ ∧ ti Try.prog 61 = some ⟨.int .u64, 1, 8, [.int .u64 0]⟩ ∧ ti Try.prog 22 = some ⟨.slice 5, 1, 24, [.slice none 0 0]⟩ ∧ ti Try.prog 63 = some ⟨.struct [(0, 22), (1, 3), (2, 61)], 3, 40, [.slice none 0 0, .int .i64 0, .int .u64 0]⟩ ∧ ti Try.prog 26 = some ⟨.struct [(0, 2), (1, 2), (2, 24)], 3, 40, [.int .i64 0, .int .i64 0, .slice none 0 0]⟩ ∧ ti Try.prog 9 = some ⟨.str, 1, 16, [.string ByteArray.empty]⟩ := ⟨ti46, ti5, ti76, ti61, ti22, ti63, ti26, ti9⟩
end Go.Proofs.Ytpienljnoaendaa.A
end

section
namespace Go.Abs
open Go Go.RowKit
end Go.Abs
end

section
namespace Go.Abs
open Go Go.RowKit
def absV (n : Nat) (v : Value) : Value := if scal v = true then v else match v with
  | .slice (some _) 0 c => if 0 < n then .slice (some ⟨0, 1, some 0⟩) 0 c else undef
  | .slice (some ⟨b, o, none⟩) l c => if b < n then .slice (some ⟨b, o, none⟩) l c else undef
  | _ => undef
def absRow (w : World) (b : Nat) : List Value := match bsz w b with
  | some k => (List.range k).map fun j => match w.cell? ⟨b, j, none⟩ with | some v => absV w.heap.size v | none => undef
  | none => []
def given (w : World) : AH := ⟨w.heap.size, fun b => if b < w.heap.size then some ⟨0, false, absRow w b⟩ else none⟩
theorem absV_rel (w : World) (v : Value) (h : (absV w.heap.size v).oneCell' = true) : V1 id w.heap.size w (absV w.heap.size v) v := by
  unfold absV at h ⊢
  by_cases hs : scal v = true
  · rw [if_pos hs]; exact .scal v hs
  · rw [if_neg hs] at h ⊢
    split at h
    · rename_i a c
      by_cases hb : 0 < w.heap.size
      · simp only [hb, if_true]; exact .slu 0 1 0 c 0 a c hb (Nat.zero_le _) (.inr ⟨rfl, Nat.zero_lt_one⟩)
      · simp [hb, undef, Value.oneCell'] at h
    · rename_i b o l c _
      by_cases hb : b < w.heap.size
      · simp only [hb, if_true]; exact V1.sle (ρ := id) b o l c hb
      · simp [hb, undef, Value.oneCell'] at h
    · simp [undef, Value.oneCell'] at h
theorem given_rel (w : World) : Rel w.heap.size id (given w) w := by
  refine ⟨fun i r hr => ?_, fun i r hr hb => ?_, fun i r hr hb => ?_, fun i j r s hr hs hb => ?_, Nat.le_refl _⟩
  · simp only [given] at hr ⊢; split at hr
    · assumption
    · cases hr
  · simp only [given] at hr ⊢; split at hr
    · rename_i hi
      cases hr
      refine ⟨hi, fun j v hv ho => ?_⟩
      unfold absRow at hv
      split at hv
      · simp only [List.getElem?_map, Option.map_eq_some_iff] at hv
        obtain ⟨j', hj', hv⟩ := hv
        have : j' = j := by
          rw [List.getElem?_range (by simpa using (List.getElem?_eq_some_iff.1 hj').1)] at hj'
          simpa using hj'.symm
        subst this
        split at hv
        · rename_i v' hc
          subst hv
          exact ⟨v', hc, absV_rel w v' ho⟩
        · subst hv; simp [undef, Value.oneCell'] at ho
      · simp at hv
    · cases hr
  · simp only [given] at hr; split at hr
    · cases hr; simp at hb
    · cases hr
  · simp only [given] at hr; split at hr
    · cases hr; simp at hb
    · cases hr
/-! ### What the statement's reading tells -/
section
variable {H : Type} {enc : TypeId × Value → H} {P : Program} {w : World} {base : Nat} {spare : Nat → Bool} {held : Bool}
end
theorem ok_slice_cell {P : Program} {W : World} {b0 : Nat} {t e : TypeId} {v : Value} (ht : P.underlying t = some (.slice e)) (h : Cell.okWide P W .any b0 t v) :
    v = .slice none 0 0 ∨ ∃ b o n c, v = .slice (some ⟨b, o, none⟩) n c ∧ b < W.heap.size ∧ n ≤ 9223372036854775807 := by
  have h2 : Cell.ok P W .any b0 t v := by
    unfold Cell.okWide at h
    rw [ht] at h
    exact h
  unfold Cell.ok at h2
  rw [ht] at h2
  split at h2 <;> simp_all
  rename_i a len cap _
  obtain ⟨h3, h4, _, hsp, row, cells, hsh, _⟩ := h2
  have hb : a.block < W.heap.size := by
    unfold World.shape? at hsh
    cases hg : W.heap[a.block]? with
    | none => rw [hg] at hsh; cases hsh
    | some o => exact (Array.getElem?_eq_some_iff.1 hg).1
  obtain ⟨b, o, sp⟩ := a
  simp only at hsp
  subst hsp
  exact ⟨b, o, len, ⟨rfl, rfl⟩, hb, by omega⟩
section
variable {H : Type} {enc : TypeId × Value → H} {P : Program} {w : World} {base : Nat} {spare : Nat → Bool} {held : Bool}
end
theorem law_end {P : Program} {f : FuncId} {args : List Value} {W : World} (hl : LV id W.heap.size W args args) (h : ACalls P f args (given W) (fun v _ => v = .bool true ∧ True)) :
    Calls P f args.toArray W fun e W' => e = .returned (.bool true) ∧ Below W.heap.size W W' := by
  refine (h.2 W.heap.size id W args (given_rel W) hl).mono ?_
  rintro e w' ⟨v', v, H', ρ', rfl, ⟨rfl, _⟩, R', hV, E⟩
  rw [hV.bool]
  exact ⟨rfl, E.bl⟩
end Go.Abs
end

section
namespace Go.Abs
open Go Go.RowKit
def Rd2 (k : Nat) (H : AH) (v : Value) (ll : List (List Int)) : Prop :=
  (ll = [] ∧ ∃ a c, v = .slice a 0 c ∧ (a = none → c = 0)) ∨ ∃ i o u c r, v = .slice (some ⟨i, o, u⟩) ll.length c ∧ H.row i = some r ∧
    ∀ j, j < ll.length → ∃ x m, r.cells[o + j]? = some x ∧ Rd k H x m (ll.getD j [])
def Fr2 (k ty ty' lo hi : Nat) (H : AH) (v : Value) (ll : List (List Int)) : Prop :=
  (ll = [] ∧ v = .slice none 0 0) ∨ ∃ (i : Nat) (vs : List Value) (b : Nat → Nat), lo ≤ i ∧ i < hi ∧ v = .slice (some ⟨i, 0, some 1⟩) ll.length ll.length ∧ H.row i = some ⟨ty, true, vs⟩ ∧ vs.length = ll.length ∧
    lo ≤ b 0 ∧ b ll.length ≤ hi ∧ (i < b 0 ∨ b ll.length ≤ i) ∧ (∀ j, b j ≤ b (j + 1)) ∧ ∀ j, j < ll.length → ∃ x m, vs[j]? = some x ∧ Fr k ty' (b j) (b (j + 1)) H x m (ll.getD j [])
theorem mono_of_step {b : Nat → Nat} (h : ∀ j, b j ≤ b (j + 1)) {i j : Nat} (hij : i ≤ j) : b i ≤ b j := by
  induction hij with
  | refl => exact Nat.le_refl _
  | step _ ih => exact Nat.le_trans ih (h _)
theorem Fr2.rd {k ty ty' lo hi : Nat} {H : AH} {v : Value} {ll : List (List Int)} (h : Fr2 k ty ty' lo hi H v ll) : Rd2 k H v ll := by
  rcases h with ⟨h1, h2⟩ | ⟨i, vs, b, h1, h2, rfl, hr, hl, _, _, _, _, hj⟩
  · exact .inl ⟨h1, none, 0, h2, fun _ => rfl⟩
  · refine .inr ⟨i, 0, some 1, _, _, rfl, hr, fun j hjl => ?_⟩
    obtain ⟨x, m, hx, hf⟩ := hj j hjl
    exact ⟨x, m, by simpa using hx, hf.rd⟩
theorem Fr2.same {k ty ty' lo hi : Nat} {H H' : AH} {v : Value} {ll : List (List Int)} (h : Fr2 k ty ty' lo hi H v ll) (hs : ∀ i, lo ≤ i → i < hi → H'.row i = H.row i) : Fr2 k ty ty' lo hi H' v ll := by
  rcases h with h | ⟨i, vs, b, h1, h2, hv, hr, hl, h3, h4, h5, h6, hj⟩
  · exact .inl h
  · refine .inr ⟨i, vs, b, h1, h2, hv, by rw [hs i h1 h2]; exact hr, hl, h3, h4, h5, h6, fun j hjl => ?_⟩
    obtain ⟨x, m, hx, hf⟩ := hj j hjl
    have m1 := mono_of_step h6 (Nat.zero_le j)
    have m2 := mono_of_step h6 (show j + 1 ≤ ll.length from hjl)
    exact ⟨x, m, hx, hf.same fun y a1 a2 => hs y (by omega) (by omega)⟩
theorem Fr2.wide {k ty ty' lo hi lo' hi' : Nat} {H : AH} {v : Value} {ll : List (List Int)} (h : Fr2 k ty ty' lo hi H v ll) (a : lo' ≤ lo) (c : hi ≤ hi') : Fr2 k ty ty' lo' hi' H v ll := by
  rcases h with h | ⟨i, vs, b, h1, h2, hv, hr, hl, h3, h4, h5, h6, hj⟩
  · exact .inl h
  · exact .inr ⟨i, vs, b, by omega, by omega, hv, hr, hl, by omega, by omega, h5, h6, hj⟩
theorem Rd2.same {k : Nat} {H H' : AH} {v : Value} {ll : List (List Int)} (h : Rd2 k H v ll) (hs : ∀ i r, H.row i = some r → H'.row i = some r) : Rd2 k H' v ll := by
  rcases h with h | ⟨i, o, u, c, r, hv, hr, hj⟩
  · exact .inl h
  · refine .inr ⟨i, o, u, c, r, hv, hs _ _ hr, fun j hjl => ?_⟩
    obtain ⟨x, m, hx, hf⟩ := hj j hjl
    exact ⟨x, m, hx, hf.same hs⟩
theorem Rd2.len {k : Nat} {H : AH} {v : Value} {ll : List (List Int)} (h : Rd2 k H v ll) (H' : AH) : asSl v (.val (.int .i64 0) H') (fun _ _ _ n _ => .val (.int .i64 (n : Int)) H') = .val (.int .i64 (ll.length : Int)) H' := by
  rcases h with ⟨rfl, a, c, rfl, _⟩ | ⟨i, o, u, c, r, rfl, hr, h3⟩
  · cases a <;> rfl
  · rfl
theorem Rd2.one {k : Nat} {H : AH} {v : Value} {ll : List (List Int)} (h : Rd2 k H v ll) : v.oneCell' = true := by
  rcases h with ⟨_, a, c, rfl, _⟩ | ⟨i, o, u, c, r, rfl, _⟩ <;> rfl
theorem ok_one {r : Row} {v : Value} (h : v.oneCell' = true) : Row.ok r [v] := .inr fun u hu => by simp at hu; rw [hu]; exact h
theorem Rd2.get {k : Nat} {H : AH} {v : Value} {ll : List (List Int)} (h : Rd2 k H v ll) {j : Nat} (hj : j < ll.length) :
    ∃ i o u c r x m, v = .slice (some ⟨i, o, u⟩) ll.length c ∧ H.row i = some r ∧ r.cells[o + j]? = some x ∧ Rd k H x m (ll.getD j []) ∧ Row.ok r [x] := by
  rcases h with ⟨rfl, _⟩ | ⟨i, o, u, c, r, rfl, hr, h3⟩
  · simp at hj
  · obtain ⟨x, m, hx, hf⟩ := h3 j hj
    exact ⟨i, o, u, c, r, x, m, rfl, hr, hx, hf, ok_one hf.one⟩
theorem Rd.lenK1 {n : Nat} {H : AH} {v : Value} {l : List Int} (h : Rd 1 H v n l) : n = l.length := by rw [h.1]; omega
theorem Fr.lenK1 {ty lo hi n : Nat} {H : AH} {v : Value} {l : List Int} (h : Fr 1 ty lo hi H v n l) : n = l.length := by rw [h.1]; omega
theorem ACalls.exH {P : Program} {f : FuncId} {args : List Value} {H : AH} {α : Type} {g : α → Value} {X : α → Prop} {R : Value → AH → Prop} (h : ACalls P f args H (fun v H' => ∃ u, v = g u ∧ H' = H ∧ X u)) (k : ∀ u, X u → R (g u) H) : ACalls P f args H R :=
  h.mono fun v H' hh => by obtain ⟨u, rfl, rfl, hx⟩ := hh; exact k _ hx
def tot (ll : List (List Int)) : Nat := (ll.map List.length).sum
theorem getD_mem {ll : List (List Int)} {a : Nat} (ha : a < ll.length) : ll.getD a [] ∈ ll := by
  rw [List.getD_eq_getElem?_getD, List.getElem?_eq_getElem ha]; exact List.getElem_mem _
theorem appE_fr2 {P : Program} {E : TI} {k ty ty' lo hi m : Nat} {H : AH} {v x : Value} {ll : List (List Int)} {l : List Int} {K : Value → AH → Prop} (h : Fr2 k ty ty' lo hi H v ll) (hx : Fr k ty' hi H.next H x m l) (hE : E.size = 1) (hb : E.bytes ≤ 32768) (hn : ll.length + 1 ≤ 4294967296) (hlo : lo ≤ hi) (hhi : hi ≤ H.next)
    (hK : ∀ v' H', H'.next = H.next + 1 → (∀ i, ¬(lo ≤ i ∧ i < hi) → i < H.next → H'.row i = H.row i) → Fr2 k ty ty' lo (H.next + 1) H' v' (ll ++ [l]) → K v' H') :
    runOut P H (appE E ty v [x] 1 H) K := by
  unfold appE
  rw [if_neg (by omega)]
  refine Holds.mp ?_
  rcases h with ⟨rfl, rfl⟩ | ⟨i, vs, b, h1, h2, rfl, hr, hvl, g0, gn, gi, gm, hj⟩ <;> rw [holds_def]
  · simp only [asSl_nil, runOut_need, runOut_val, hE]
    refine ⟨⟨by omega, hb⟩, hK _ _ rfl (fun i _ hi => by rw [AH.push_row, if_neg (by omega)]) (.inr ⟨H.next, [x], fun j => if j = 0 then hi else H.next, by omega, by omega, rfl, by rw [AH.push_row, if_pos rfl], rfl, ?_, ?_, .inr ?_, fun j => ?_, fun j hj => ?_⟩)⟩
    · dsimp only; rw [if_pos rfl]; exact hlo
    · dsimp only [List.nil_append, List.length_singleton]; rw [if_neg (by omega)]; omega
    · dsimp only [List.nil_append, List.length_singleton]; rw [if_neg (by omega)]; omega
    · dsimp only; split
      · rw [if_neg (by omega)]; exact hhi
      · rw [if_neg (by omega)]; omega
    · simp only [List.nil_append, List.length_singleton] at hj
      have : j = 0 := by omega
      subst this
      refine ⟨x, m, rfl, ?_⟩
      dsimp only
      rw [if_pos rfl, if_neg (by omega)]
      exact hx.same fun z _ hz => by rw [AH.push_row, if_neg (by omega)]
  · simp only [asSl_some, hr, bindO_some, runOut_need, Nat.zero_add, hE, Nat.mul_one]
    refine ⟨⟨hn, hb, by omega, .inl rfl⟩, ?_⟩
    rw [if_neg (by omega)]
    simp only [runOut_need, runOut_val]
    refine ⟨by simp, hK _ _ rfl (fun j hj hj2 => ?_) (.inr ⟨H.next, vs ++ [x], fun j => if j < ll.length then b j else if j = ll.length then hi else H.next, by omega, by omega, ?_, ?_, ?_, ?_, ?_, .inr ?_, fun j => ?_, fun j hjl => ?_⟩)⟩
    · rw [AH.push_row, if_neg (by rw [AH.drop_next]; omega), AH.drop_row, if_neg (by omega)]
    · rw [List.length_append]; rfl
    · rw [AH.push_row, AH.drop_next, if_pos rfl, seg_all _ _ hvl.symm]
    · rw [List.length_append, List.length_append, hvl]; rfl
    · dsimp only
      split
      · exact g0
      · split
        · exact hlo
        · omega
    · rw [List.length_append, List.length_singleton]
      dsimp only
      rw [if_neg (by omega), if_neg (by omega)]; omega
    · rw [List.length_append, List.length_singleton]
      dsimp only
      rw [if_neg (by omega), if_neg (by omega)]; omega
    · dsimp only
      by_cases c1 : j + 1 < ll.length
      · rw [if_pos (by omega), if_pos c1]; exact gm j
      · by_cases c2 : j + 1 = ll.length
        · rw [if_pos (by omega), if_neg c1, if_pos c2]
          have := mono_of_step gm (show j ≤ ll.length by omega); omega
        · by_cases c3 : j = ll.length
          · rw [if_neg (by omega), if_pos c3, if_neg c1, if_neg c2]; exact hhi
          · rw [if_neg (by omega), if_neg c3, if_neg c1, if_neg c2]; omega
    · rw [List.length_append, List.length_singleton] at hjl
      have old : ∀ z, lo ≤ z → z < H.next → ¬ z = i → ((H.drop i).push ⟨ty, true, seg vs 0 ll.length ++ [x]⟩).row z = H.row z := fun z _ z2 z3 => by
        rw [AH.push_row, if_neg (by rw [AH.drop_next]; omega), AH.drop_row, if_neg z3]
      by_cases c : j < ll.length
      · obtain ⟨y, q, hy, hf⟩ := hj j c
        refine ⟨y, q, by rw [List.getElem?_append_left (by omega), hy], ?_⟩
        have e1 : (ll ++ [l]).getD j [] = ll.getD j [] := by simp [List.getD_eq_getElem?_getD, List.getElem?_append_left c]
        rw [e1]
        have c1 := mono_of_step gm (Nat.zero_le j)
        have c2 := mono_of_step gm (show j + 1 ≤ ll.length by omega)
        have f1 : Fr k ty' (b j) (b (j + 1)) ((H.drop i).push ⟨ty, true, seg vs 0 ll.length ++ [x]⟩) y q (ll.getD j []) := hf.same fun z z1 z2 => old z (by omega) (by omega) (by omega)
        dsimp only
        rw [if_pos c]
        by_cases c3 : j + 1 < ll.length
        · rw [if_pos c3]; exact f1
        · rw [if_neg c3, if_pos (by omega)]; exact f1.wide (Nat.le_refl _) (by omega)
      · have c4 : j = ll.length := by omega
        subst c4
        refine ⟨x, m, by rw [← hvl, List.getElem?_append_right (Nat.le_refl _)]; simp, ?_⟩
        have e1 : (ll ++ [l]).getD ll.length [] = l := by simp [List.getD_eq_getElem?_getD]
        rw [e1]
        dsimp only
        rw [if_neg (by omega), if_pos rfl, if_neg (by omega), if_neg (by omega)]
        exact hx.same fun z z1 z2 => old z (by omega) z2 (by omega)
end Go.Abs
end

section
namespace Go.Abs
open Go Go.RowKit
theorem given_cell {w : World} {b j : Nat} {u : Value} (h : w.cell? ⟨b, j, none⟩ = some u) : b < w.heap.size ∧ (given w).row b = some ⟨0, false, absRow w b⟩ ∧ (absRow w b)[j]? = some (absV w.heap.size u) := by
  have h1 := h
  unfold World.cell? at h1
  split at h1
  · rename_i cs t fr he
    have hb : b < w.heap.size := (Array.getElem?_eq_some_iff.1 he).1
    have hk : bsz w b = some cs.size := by simp [bsz, he]
    have h2 : cs[j]? = some u := by simpa using h1
    have h3 : j < cs.size := (Array.getElem?_eq_some_iff.1 h2).1
    refine ⟨hb, by simp [given, hb], ?_⟩
    simp only [absRow, hk, List.getElem?_map]
    rw [List.getElem?_range h3]
    simp only [Option.map_some, h]
  · cases h1
section
variable {H : Type} {enc : TypeId × Value → H} {P : Program} {w : World} {base : Nat} {spare : Nat → Bool} {held : Bool}
end
end Go.Abs
end

section
namespace Go.Abs
open Go Go.RowKit
inductive OT
  | nil
  | one (i : Nat) (r : OT)
  | two (i j : Nat) (ri rj : OT)
  | three (i j k : Nat) (ri rj rk : OT)
def OT.depth : OT → Nat
  | .nil => 0
  | .one _ r => r.depth + 1
  | .two _ _ a b => max a.depth b.depth + 1
  | .three _ _ _ a b c => max a.depth (max b.depth c.depth) + 1
def OT.run : List Nat → OT → OT
  | [], r => r
  | i :: is, r => .one i (OT.run is r)
def okOT (ops : Array Oper) : OT → Array Bool → Bool
  | .nil, listed => (Region.ready .any ops listed).isEmpty
  | .one i r, listed =>
    (match ops[i]? with
     | some o => if quietOp o.op = true then (Region.ready .any ops listed).contains i && Region.free .any ops listed i else Region.ready .any ops listed == [i]
     | none => false) && okOT ops r (listed.setIfInBounds i true)
  | .two i j a b, listed => Region.ready .any ops listed == [i, j] && okOT ops a (listed.setIfInBounds i true) && okOT ops b (listed.setIfInBounds j true)
  | .three i j k a b c, listed => Region.ready .any ops listed == [i, j, k] && okOT ops a (listed.setIfInBounds i true) && okOT ops b (listed.setIfInBounds j true) && okOT ops c (listed.setIfInBounds k true)
def awpT (P : Program) (ops : Array Oper) (Q : T → AH → Prop) : (o : OT) → T → AH → (fun _ => Prop) (ops, Q, o)
  | .nil, t, H => Q t H
  | .one i r, t, H => stepI P ops (awpT P ops Q r) i (ops.toList[i]?) t H
  | .two i j a b, t, H => stepI P ops (awpT P ops Q a) i (ops.toList[i]?) t H ∧ stepI P ops (awpT P ops Q b) j (ops.toList[j]?) t H
  | .three i j k a b c, t, H => stepI P ops (awpT P ops Q a) i (ops.toList[i]?) t H ∧ stepI P ops (awpT P ops Q b) j (ops.toList[j]?) t H ∧ stepI P ops (awpT P ops Q c) k (ops.toList[k]?) t H
theorem stepI_a {P : Program} {ops : Array Oper} {K : T → AH → Prop} {i : Nat} {t : T} {H : AH} (h : stepI P ops K i (ops.toList[i]?) t H) :
    aStep P ops.toList i t H fun t' H' => ((∃ o, ops.toList[i]? = some o ∧ quietOp o.op = true) ∨ sinkB ops i = true ∨ LE H H') ∧ K t' H' := by
  unfold aStep
  cases e : ops.toList[i]? with
  | none => rw [e] at h; exact h.elim
  | some o =>
    rw [e] at h
    unfold stepI at h
    simp only
    cases hg : o.guard with
    | none => simp only [hg] at h ⊢; exact runOut_mono (fun v H' k => ⟨k.1.imp (fun q => ⟨o, rfl, q⟩) id, k.2⟩) _ h
    | some g => simp only [hg] at h ⊢; exact condW_mono h (runOut_mono (fun v H' k => ⟨k.1.imp (fun q => ⟨o, rfl, q⟩) id, k.2⟩) _) (fun k => ⟨.inr (.inr (LE.refl H)), k⟩)
theorem stepI_s {P : Program} {ops : Array Oper} {K : T → AH → Prop} {i : Nat} {t : T} {H : AH} (h : stepI P ops K i (ops.toList[i]?) t H) :
    aStep P ops.toList i t H fun t' H' => (sinkB ops i = true ∨ LE H H') ∧ K t' H' := by
  cases e : ops.toList[i]? with
  | none => rw [e] at h; exact h.elim
  | some o =>
    by_cases hq : quietOp o.op = true
    · have ho : ops[i]? = some o := by simpa using e
      obtain ⟨v, hy, hk⟩ := aStep_quiet ho hq (stepI_a h)
      exact hy.step ho hq ⟨.inr (LE.refl _), hk.2⟩
    · refine aStep_mono (stepI_a h) fun t' H' hk => ⟨?_, hk.2⟩
      rcases hk.1 with ⟨o', e', q'⟩ | k
      · rw [e] at e'; cases e'; exact absurd q' hq
      · exact k
theorem AAny_tree {P : Program} {ops : Array Oper} {Q : T → AH → Prop} : ∀ (ot : OT) (listed : Array Bool) (t : T) (H : AH) (f : Nat), ot.depth ≤ f → Closed ops listed → okOT ops ot listed = true → awpT P ops Q ot t H → AAny P ops Q f listed t H
  | .nil, listed, t, H, f, _, _, hok, h => by
    have hr : Region.ready .any ops listed = [] := by simpa [okOT] using hok
    cases f with
    | zero => exact ⟨hr, h⟩
    | succ f => exact ⟨fun _ => h, by rw [hr]; simp⟩
  | .one i r, listed, t, H, 0, hl, _, _, _ => by simp [OT.depth] at hl
  | .two i j a b, listed, t, H, 0, hl, _, _, _ => by simp [OT.depth] at hl
  | .three i j k a b c, listed, t, H, 0, hl, _, _, _ => by simp [OT.depth] at hl
  | .one i r, listed, t, H, f + 1, hl, hc, hok, h => by
    simp only [okOT, Bool.and_eq_true] at hok
    simp only [OT.depth] at hl
    obtain ⟨h1, h2⟩ := hok
    unfold awpT at h
    cases ho : ops[i]? with
    | none => simp [ho] at h1
    | some o =>
      simp only [ho] at h1
      split at h1
      · rename_i hq
        simp only [Bool.and_eq_true] at h1
        obtain ⟨hr, hfr⟩ := h1
        have hr' : i ∈ Region.ready .any ops listed := by simpa using hr
        obtain ⟨v, hy, hk⟩ := aStep_quiet ho hq (stepI_s h)
        exact AAny_first ho hq f listed t H hc (Region.free_spec ho hfr) hr' hy (AAny_tree r _ _ H f (by omega) (hc.set hr') h2 hk.2)
      · have hr : Region.ready .any ops listed = [i] := by simpa using h1
        refine ⟨fun h0 => (by rw [hr] at h0; cases h0), fun j hj => ?_⟩
        have hji : j = i := by rw [hr] at hj; simpa using hj
        subst hji
        exact aStep_mono (stepI_s h) fun t' H' hk => ⟨hk.1, AAny_tree r _ t' H' f (by omega) (hc.set hj) h2 hk.2⟩
  | .two i j a b, listed, t, H, f + 1, hl, hc, hok, h => by
    simp only [okOT, Bool.and_eq_true] at hok
    simp only [OT.depth] at hl
    obtain ⟨⟨h1, h2⟩, h3⟩ := hok
    unfold awpT at h
    have hr : Region.ready .any ops listed = [i, j] := by simpa using h1
    refine ⟨fun h0 => (by rw [hr] at h0; cases h0), fun x hx => ?_⟩
    have hx2 : x = i ∨ x = j := by rw [hr] at hx; simpa using hx
    rcases hx2 with rfl | rfl
    · exact aStep_mono (stepI_s h.1) fun t' H' hk => ⟨hk.1, AAny_tree a _ t' H' f (by omega) (hc.set hx) h2 hk.2⟩
    · exact aStep_mono (stepI_s h.2) fun t' H' hk => ⟨hk.1, AAny_tree b _ t' H' f (by omega) (hc.set hx) h3 hk.2⟩
  | .three i j k a b c, listed, t, H, f + 1, hl, hc, hok, h => by
    simp only [okOT, Bool.and_eq_true] at hok
    simp only [OT.depth] at hl
    obtain ⟨⟨⟨h1, h2⟩, h3⟩, h4⟩ := hok
    unfold awpT at h
    have hr : Region.ready .any ops listed = [i, j, k] := by simpa using h1
    refine ⟨fun h0 => (by rw [hr] at h0; cases h0), fun x hx => ?_⟩
    have hx2 : x = i ∨ x = j ∨ x = k := by rw [hr] at hx; simpa using hx
    rcases hx2 with rfl | rfl | rfl
    · exact aStep_mono (stepI_s h.1) fun t' H' hk => ⟨hk.1, AAny_tree a _ t' H' f (by omega) (hc.set hx) h2 hk.2⟩
    · exact aStep_mono (stepI_s h.2.1) fun t' H' hk => ⟨hk.1, AAny_tree b _ t' H' f (by omega) (hc.set hx) h3 hk.2⟩
    · exact aStep_mono (stepI_s h.2.2) fun t' H' hk => ⟨hk.1, AAny_tree c _ t' H' f (by omega) (hc.set hx) h4 hk.2⟩
theorem draw_tree {P : Program} {id : Nat} {ops : Array Oper} {Q : Exit → T → AH → Prop} {t : T} {H : AH} (ot : OT) (hm : P.follows .mixedOrders = true) (hok : okOT ops ot (Array.replicate ops.size false) = true) (hl : ot.depth ≤ ops.size)
    (h : awpT P ops (Q .normal) ot t H) : awp P (.region id ops true) Q t H := by
  intro base ρ w tmps QC hS hd hQ
  have hA := AAny_tree ot _ t H ops.size hl ⟨by simp, fun j oj hj hl => by rw [getD_replicate_false'] at hl; cases hl⟩ hok h
  refine wp_region_any hm (AAny_ok ops.size _ t H ρ w.drew tmps hA ⟨hS.1.drew, hS.2.ext (ext_drew (base := base) (H := H) w)⟩ ?_ fun t' H' ρ' w' tmps' hq hs he hz => ?_)
  · intro o ho i hi
    have := List.all_eq_true.1 hd o ho
    simp only [hi, decide_eq_true_eq] at this
    exact this
  · exact hQ .normal t' H' ρ' w' tmps' hq hs ((ext_drew (base := base) (H := H) (ρ := ρ) w).trans he) hz
theorem awpT_nil (P : Program) (ops : Array Oper) (Q : T → AH → Prop) (t : T) (H : AH) : awpT P ops Q .nil t H = Q t H := (rfl)
theorem awpT_one (P : Program) (ops : Array Oper) (Q : T → AH → Prop) (i : Nat) (r : OT) (t : T) (H : AH) : awpT P ops Q (.one i r) t H = stepI P ops (awpT P ops Q r) i (ops.toList[i]?) t H := (rfl)
theorem awpT_run_nil (P : Program) (ops : Array Oper) (Q : T → AH → Prop) (r : OT) (t : T) (H : AH) : awpT P ops Q (OT.run [] r) t H = awpT P ops Q r t H := (rfl)
theorem awpT_run_cons (P : Program) (ops : Array Oper) (Q : T → AH → Prop) (i : Nat) (is : List Nat) (r : OT) (t : T) (H : AH) : awpT P ops Q (OT.run (i :: is) r) t H = stepI P ops (awpT P ops Q (OT.run is r)) i (ops.toList[i]?) t H := (rfl)
theorem awpT_two {P : Program} {ops : Array Oper} {Q : T → AH → Prop} {i j : Nat} {a b : OT} {t : T} {H : AH} (h1 : stepI P ops (awpT P ops Q a) i (ops.toList[i]?) t H) (h2 : stepI P ops (awpT P ops Q b) j (ops.toList[j]?) t H) : awpT P ops Q (.two i j a b) t H := ⟨h1, h2⟩
@[congr] theorem awpT_congr {P : Program} {ops : Array Oper} {o : OT} {Q : T → AH → Prop} {t t' : T} {H H' : AH} (h : t = t') (k : H = H') : awpT P ops Q o t H = awpT P ops Q o t' H' := by rw [h, k]
theorem asCells_one {v : Value} (h : v.oneCell' = true) (f : List Value → Out) : asCells v f = f [v] := by
  cases v <;> first | rfl | (simp [Value.oneCell'] at h)
theorem awp_cutQ {P : Program} {a : Code} {Q : Exit → T → AH → Prop} {N : T → AH → Prop} {t : T} {H : AH} (M : T → AH → Prop) (h : awp P a (seqQ M Q) t H) (k : ∀ t H, M t H → N t H) : awp P a (seqQ N Q) t H :=
  awp_mono a _ _ t H (seqQ_mono k fun _ _ _ h => h) h
def Sc (H : AH) : Prop := ∀ i r, H.row i = some r → i < H.next
theorem Sc.push {H : AH} (h : Sc H) (r : Row) : Sc (H.push r) := by
  intro i x hx
  rw [AH.push_row] at hx
  rw [AH.push_next]
  split at hx
  · omega
  · have := h i x hx; omega
theorem Sc.le {H : AH} (h : Sc H) (r : Row) : LE H (H.push r) := ⟨Nat.le_succ _, fun i x hx => by rw [AH.push_row, if_neg (by have := h i x hx; omega)]; exact hx⟩
theorem ACalls.sc {P : Program} {f : FuncId} {args : List Value} {H : AH} {R : Value → AH → Prop} (h : ACalls P f args H R) : ACalls P f args H (fun v H' => R v H' ∧ Sc H') := by
  refine ⟨h.1, fun base ρ w args' hR hL => (h.2 base ρ w args' hR hL).mono ?_⟩
  rintro e w' ⟨v', v, H', ρ', rfl, hv, R', r⟩
  exact ⟨v', v, H', ρ', rfl, ⟨hv, R'.scope⟩, R', r⟩
end Go.Abs
end

section
namespace Go.Abs
open Go Go.RowKit
theorem Sc.set {H : AH} (h : Sc H) (i : Nat) (cs : List Value) : Sc (H.setCells i cs) := by
  intro j x hx
  rw [AH.setCells_row] at hx
  rw [AH.setCells_next]
  split at hx
  · rename_i e
    subst e
    cases hr : H.row j with
    | none => rw [hr] at hx; cases hx
    | some r => exact h j r hr
  · exact h j x hx
end Go.Abs
end

section
namespace Go.Abs
open Go Go.RowKit
theorem Sc.drop {H : AH} (h : Sc H) (i : Nat) : Sc (H.drop i) := by
  intro j x hx
  rw [AH.drop_row] at hx
  rw [AH.drop_next]
  split at hx
  · cases hx
  · exact h j x hx
end Go.Abs
end

section
namespace Go.Abs
open Go Go.RowKit
def Sld (k : Nat) (v : Value) (n : Nat) : Prop := v = .slice none 0 0 ∨ (∃ i o c, v = .slice (some ⟨i, o, some k⟩) n c) ∨ ∃ i o c, v = .slice (some ⟨i, o, none⟩) n c ∧ n ≤ c
structure Rs (k : Nat) (H : AH) (v : Value) (n : Nat) (l : List Int) : Prop where
  rd : Rd k H v n l
  sl : Sld k v n
theorem Rs.same {k n : Nat} {H H' : AH} {v : Value} {l : List Int} (h : Rs k H v n l) (hs : ∀ i r, H.row i = some r → H'.row i = some r) : Rs k H' v n l := ⟨h.rd.same hs, h.sl⟩
theorem Fr.rs {k ty lo hi n : Nat} {H : AH} {v : Value} {l : List Int} (h : Fr k ty lo hi H v n l) : Rs k H v n l := by
  refine ⟨h.rd, ?_⟩
  rcases h.2 with ⟨_, h2⟩ | ⟨i, _, _, hv, _⟩
  · exact .inl h2
  · exact .inr (.inl ⟨i, 0, n, hv⟩)
theorem Rs.cut {k n a b : Nat} {H : AH} {v : Value} {l : List Int} (h : Rs k H v n l) {lo hi : Option Int} (ha : lo.getD 0 = (a : Int)) (hb : hi.getD (n : Int) = (b : Int)) (hab : a ≤ b) (hbn : b ≤ n) :
    ∃ w, (∀ (P : Program) (E : TI) (K : Value → AH → Prop) (H' : AH), E.size = k → K w H' → runOut P H' (sliceE E v lo hi none H') K) ∧ Rs k H w (b - a) ((l.drop (a * k)).take ((b - a) * k)) := by
  obtain ⟨hl, hr⟩ := h.rd
  have hlen : ((l.drop (a * k)).take ((b - a) * k)).length = (b - a) * k := by
    rw [List.length_take, List.length_drop, hl, ← Nat.sub_mul]
    exact Nat.min_eq_left (Nat.mul_le_mul_right k (by omega))
  have hmul : a * k + (b - a) * k ≤ n * k := by rw [← Nat.add_mul]; exact Nat.mul_le_mul_right k (by omega)
  have key : ∀ (i o : Nat) (u : Option Nat) (c o' c' : Nat) (r : Row), (b - a = 0 ∨ o' = o + a * k) → H.row i = some r → o + n * k ≤ r.cells.length → seg r.cells o (n * k) = ints l →
      Rd k H (.slice (some ⟨i, o', u⟩) (b - a) c') (b - a) ((l.drop (a * k)).take ((b - a) * k)) := by
    intro i o u c o' c' r ho hrow hle hseg
    refine ⟨hlen, ?_⟩
    rcases Nat.eq_zero_or_pos (b - a) with h0 | h0
    · refine .inl ⟨h0, _, _, by rw [h0], fun h => by cases h⟩
    · obtain rfl : o' = o + a * k := by rcases ho with ho | ho <;> omega
      refine .inr ⟨i, _, u, c', r, rfl, hrow, by omega, ?_⟩
      rw [← ints_seg, ← hseg]
      apply List.ext_getElem?
      intro x
      simp only [seg, List.getElem?_take, List.getElem?_drop]
      by_cases hx : x < (b - a) * k
      · rw [if_pos hx, if_pos hx, if_pos (by omega), Nat.add_assoc]
      · rw [if_neg hx, if_neg hx]
  rcases h.sl with rfl | ⟨i, o, c, rfl⟩ | ⟨i, o, c, rfl, hc⟩
  · have hn : n = 0 := by
      rcases hr with ⟨h0, _⟩ | ⟨_, _, _, _, _, hv, _⟩
      · exact h0
      · cases hv
    subst hn
    obtain rfl : b = 0 := by omega
    obtain rfl : a = 0 := by omega
    refine ⟨.slice none 0 0, fun P E K H' hE hK => ?_, ⟨⟨hlen, .inl ⟨rfl, none, 0, rfl, fun _ => rfl⟩⟩, .inl rfl⟩⟩
    unfold sliceE
    rw [if_neg (by simp)]
    simp only [asSl_nil, runOut_need, runOut_val]
    refine ⟨⟨ha, ?_, rfl⟩, hK⟩
    cases hi with
    | none => rfl
    | some x => simpa using hb
  · refine ⟨.slice (some ⟨i, o + a * k, some k⟩) (b - a) (b - a), fun P E K H' hE hK => ?_, ⟨?_, .inr (.inl ⟨i, _, _, rfl⟩)⟩⟩
    · unfold sliceE
      rw [if_neg (by simp)]
      simp only [asSl_some, runOut_need, runOut_val, ha, hb, Int.toNat_natCast, hE]
      exact ⟨⟨by omega, by omega, by omega, trivial⟩, hK⟩
    · rcases hr with ⟨h0, a', c', hv, _⟩ | ⟨i', o', u', c', r, hv, hrow, hle, hseg⟩
      · obtain rfl : b = 0 := by omega
        obtain rfl : a = 0 := by omega
        exact ⟨hlen, .inl ⟨rfl, _, _, rfl, fun h => by cases h⟩⟩
      · simp only [Value.slice.injEq, Option.some.injEq, Addr.mk.injEq] at hv
        obtain ⟨⟨rfl, rfl, rfl⟩, _, rfl⟩ := hv
        exact key i o (some k) c _ _ r (.inr rfl) hrow hle hseg
  · refine ⟨.slice (some ⟨i, if (c : Int) = (a : Int) then o else o + a * k, none⟩) (b - a) (c - a), fun P E K H' hE hK => ?_, ⟨?_, .inr (.inr ⟨i, _, _, rfl, by omega⟩)⟩⟩
    · unfold sliceE
      rw [if_neg (by simp)]
      have e0 : ((none : Option Int).getD (c : Int)) = (c : Int) := rfl
      simp only [asSl_some, runOut_need, runOut_val, ha, hb, e0, Int.toNat_natCast, hE]
      exact ⟨⟨by omega, by omega, by omega, Int.le_refl _⟩, hK⟩
    · rcases hr with ⟨h0, a', c', hv, _⟩ | ⟨i', o', u', c', r, hv, hrow, hle, hseg⟩
      · obtain rfl : b = 0 := by omega
        obtain rfl : a = 0 := by omega
        exact ⟨hlen, .inl ⟨rfl, _, _, rfl, fun h => by cases h⟩⟩
      · simp only [Value.slice.injEq, Option.some.injEq, Addr.mk.injEq] at hv
        obtain ⟨⟨rfl, rfl, rfl⟩, _, rfl⟩ := hv
        refine key i o none c _ _ r ?_ hrow hle hseg
        split
        · left; omega
        · right; rfl
end Go.Abs
end

section
namespace Go.Abs
open Go Go.RowKit
end Go.Abs
end

section
namespace Go.Abs
open Go Go.RowKit
structure Th where
  p : AH → (Nat → Prop) → Prop
  loc : ∀ (H H' : AH) (S S' : Nat → Prop), (∀ i, S i → S' i) → (∀ i r, S i → H.row i = some r → H'.row i = some r) → p H S → p H' S'
def Th.sl (k : Nat) (ty : TypeId) (v : Value) (n : Nat) (vs : List Value) : Th where
  p := fun H S => vs.length = n * k ∧ ((n = 0 ∧ v = .slice none 0 0) ∨ ∃ i, S i ∧ v = .slice (some ⟨i, 0, some k⟩) n n ∧ H.row i = some ⟨ty, true, vs⟩)
  loc := fun H H' S S' hS hr h => ⟨h.1, h.2.imp id fun ⟨i, h1, h2, h3⟩ => ⟨i, hS i h1, h2, hr i _ h1 h3⟩⟩
def Th.row (i : Nat) (r : Row) : Th where
  p := fun H S => S i ∧ H.row i = some r
  loc := fun H H' S S' hS hr h => ⟨hS i h.1, hr i r h.1 h.2⟩
def Th.no : Th where
  p := fun _ _ => True
  loc := fun _ _ _ _ _ _ _ => trivial
def Th.sl2 {α : Type} (f : α → Value) (ty ty' : TypeId) (v : Value) (ll : List (List α)) : Th where
  p := fun H S => (ll = [] ∧ v = .slice none 0 0) ∨ ∃ (i : Nat) (vs : List Value) (o : Nat → Nat), S i ∧ o i = 0 ∧ v = .slice (some ⟨i, 0, some 1⟩) ll.length ll.length ∧ H.row i = some ⟨ty, true, vs⟩ ∧ vs.length = ll.length ∧
    ∀ j, j < ll.length → ∃ x, vs[j]? = some x ∧ (Th.sl 1 ty' x (ll.getD j []).length ((ll.getD j []).map f)).p H (fun z => S z ∧ o z = j + 1)
  loc := fun H H' S S' hS hr h => h.imp id fun ⟨i, vs, o, h1, h2, h3, h4, h5, h6⟩ => ⟨i, vs, o, hS i h1, h2, h3, hr i _ h1 h4, h5, fun j hj => by
    obtain ⟨x, hx, hp⟩ := h6 j hj
    exact ⟨x, hx, (Th.sl 1 ty' x _ _).loc H H' _ _ (fun z hz => ⟨hS z hz.1, hz.2⟩) (fun z r hz => hr z r hz.1) hp⟩⟩
structure Ow (B H : AH) (L : List Th) : Prop where
  sc : Sc H
  next : B.next ≤ H.next
  low : ∀ i, i < B.next → H.row i = B.row i
  own : ∃ o : Nat → Nat, ∀ (k : Nat) (p : Th), L[k]? = some p → p.p H (fun i => B.next ≤ i ∧ i < H.next ∧ o i = k)
theorem Ow.refl {H : AH} (h : Sc H) : Ow H H [] := ⟨h, Nat.le_refl _, fun _ _ => rfl, fun _ => 0, fun k p hk => by simp at hk⟩
theorem Ow.up {B H : AH} {L : List Th} (h : Ow B H L) : Up B.next B H := ⟨h.next, h.low⟩
theorem Ow.old {B H : AH} {L : List Th} (h : Ow B H L) (hs : ∀ i r, B.row i = some r → i < B.next) : ∀ i r, B.row i = some r → H.row i = some r := fun i r hr => by rw [h.low i (hs i r hr)]; exact hr
theorem set_get {L : List Th} {k j : Nat} {p p' q : Th} (hk : L[k]? = some p) (h : (L.set k p')[j]? = some q) : (j = k ∧ q = p') ∨ (j ≠ k ∧ L[j]? = some q) := by
  rw [List.getElem?_set] at h
  by_cases e : k = j
  · subst e
    rw [if_pos rfl, if_pos (List.getElem?_eq_some_iff.1 hk).1] at h
    exact .inl ⟨rfl, (Option.some.inj h).symm⟩
  · rw [if_neg e] at h
    exact .inr ⟨fun h => e h.symm, h⟩
def ownF (N : Nat) (a b : Nat → Nat) (i : Nat) : Nat := if N ≤ i then a i else b i
theorem ownF_ge {N i : Nat} (a b : Nat → Nat) (h : N ≤ i) : ownF N a b i = a i := by unfold ownF; rw [if_pos h]
theorem ownF_lt {N i : Nat} (a b : Nat → Nat) (h : i < N) : ownF N a b i = b i := by unfold ownF; rw [if_neg (by omega)]
theorem Ow.upd {B H H' : AH} {L : List Th} (h : Ow B H L) {k : Nat} {p p' : Th} (hk : L[k]? = some p) (hn : H.next ≤ H'.next) (hs : Sc H')
    (hp : ∀ S, (∀ i, S i → B.next ≤ i ∧ i < H.next) → p.p H S → (∀ i, i < H.next → ¬ S i → H'.row i = H.row i) ∧ ∀ S' : Nat → Prop, (∀ i, S i → S' i) → (∀ i, H.next ≤ i → i < H'.next → S' i) → p'.p H' S') :
    Ow B H' (L.set k p') := by
  obtain ⟨o, ho⟩ := h.own
  obtain ⟨h1, h2⟩ := hp _ (fun i hi => ⟨hi.1, hi.2.1⟩) (ho k p hk)
  have hb := h.next
  refine ⟨hs, Nat.le_trans hb hn, fun i hi => by rw [h1 i (by omega) (fun hh => by omega), h.low i hi], ownF H.next (fun _ => k) o, fun j q hj => ?_⟩
  rcases set_get hk hj with ⟨rfl, rfl⟩ | ⟨hne, hq⟩
  · refine h2 _ (fun i hi => ⟨hi.1, by omega, ?_⟩) fun i i1 i2 => ⟨by omega, i2, ?_⟩
    · rw [ownF_lt _ _ hi.2.1]; exact hi.2.2
    · rw [ownF_ge _ _ i1]
  · refine q.loc H H' _ _ (fun i hi => ⟨hi.1, by omega, ?_⟩) (fun i r hi hr => ?_) (ho j q hq)
    · rw [ownF_lt _ _ hi.2.1]; exact hi.2.2
    · rw [h1 i (by omega) (fun hh => hne (hi.2.2.symm.trans hh.2.2)), hr]
theorem Ow.add {B H H' : AH} {L : List Th} (h : Ow B H L) (p' : Th) (hn : H.next ≤ H'.next) (hs : Sc H') (hr : ∀ i, i < H.next → H'.row i = H.row i)
    (hp : ∀ S : Nat → Prop, (∀ i, H.next ≤ i → i < H'.next → S i) → p'.p H' S) : Ow B H' (L ++ [p']) := by
  obtain ⟨o, ho⟩ := h.own
  have hb := h.next
  refine ⟨hs, Nat.le_trans hb hn, fun i hi => by rw [hr i (by omega), h.low i hi], ownF H.next (fun _ => L.length) o, fun j q hj => ?_⟩
  by_cases hjl : j < L.length
  · rw [List.getElem?_append_left hjl] at hj
    refine q.loc H H' _ _ (fun i hi => ⟨hi.1, by omega, ?_⟩) (fun i r hi hrr => by rw [hr i hi.2.1, hrr]) (ho j q hj)
    rw [ownF_lt _ _ hi.2.1]; exact hi.2.2
  · rw [List.getElem?_append_right (by omega)] at hj
    have hj0 : j = L.length := by
      have := (List.getElem?_eq_some_iff.1 hj).1
      simp at this; omega
    subst hj0
    simp at hj
    subst hj
    refine hp _ fun i i1 i2 => ⟨by omega, i2, ?_⟩
    rw [ownF_ge _ _ i1]
theorem Ow.call {B H H' : AH} {L M : List Th} (h : Ow B H L) (k : Ow H H' M) : Ow B H' (L ++ M) := by
  obtain ⟨o, ho⟩ := h.own
  obtain ⟨u, hu⟩ := k.own
  have hb := h.next
  have hn := k.next
  refine ⟨k.sc, Nat.le_trans hb hn, fun i hi => by rw [k.low i (by omega), h.low i hi], ownF H.next (fun i => L.length + u i) o, fun j q hj => ?_⟩
  by_cases hjl : j < L.length
  · rw [List.getElem?_append_left hjl] at hj
    refine q.loc H H' _ _ (fun i hi => ⟨hi.1, by omega, ?_⟩) (fun i r hi hrr => by rw [k.low i hi.2.1, hrr]) (ho j q hj)
    rw [ownF_lt _ _ hi.2.1]; exact hi.2.2
  · rw [List.getElem?_append_right (by omega)] at hj
    refine q.loc H' H' _ _ (fun i hi => ⟨by omega, hi.2.1, ?_⟩) (fun i r _ hr => hr) (hu _ q hj)
    rw [ownF_ge _ _ hi.1, hi.2.2]; omega
theorem Ow.keep {B H H' : AH} {L : List Th} (h : Ow B H L) (hn : H.next ≤ H'.next) (hs : Sc H') (hr : ∀ i, i < H.next → H'.row i = H.row i) : Ow B H' L := by
  obtain ⟨o, ho⟩ := h.own
  have hb := h.next
  exact ⟨hs, Nat.le_trans hb hn, fun i hi => by rw [hr i (by omega), h.low i hi], o, fun j q hj => q.loc H H' _ _ (fun i hi => ⟨hi.1, by omega, hi.2.2⟩) (fun i r hi hrr => by rw [hr i hi.2.1, hrr]) (ho j q hj)⟩
theorem Ow.sub {B H : AH} {L M : List Th} (h : Ow B H L) (f : Nat → Nat) (hf : ∀ j, j < M.length → L[f j]? = M[j]?) (hi : ∀ i j, i < M.length → j < M.length → f i = f j → i = j) : Ow B H M := by
  obtain ⟨o, ho⟩ := h.own
  classical
  refine ⟨h.sc, h.next, h.low, fun i => if hh : ∃ j, j < M.length ∧ f j = o i then Classical.choose hh else M.length, fun j q hj => ?_⟩
  have hjl := (List.getElem?_eq_some_iff.1 hj).1
  refine q.loc H H _ _ (fun i hh => ⟨hh.1, hh.2.1, ?_⟩) (fun i r _ hr => hr) (ho (f j) q (by rw [hf j hjl]; exact hj))
  have hex : ∃ z, z < M.length ∧ f z = o i := ⟨j, hjl, hh.2.2.symm⟩
  show (if hh : ∃ j, j < M.length ∧ f j = o i then Classical.choose hh else M.length) = j
  rw [dif_pos hex]
  obtain ⟨c1, c2⟩ := Classical.choose_spec hex
  exact hi _ _ c1 hjl (by rw [c2, ← hh.2.2])
theorem Ow.left {B H : AH} {L M : List Th} (h : Ow B H (L ++ M)) : Ow B H L :=
  h.sub (fun j => j) (fun j hj => by rw [List.getElem?_append_left hj]) fun _ _ _ _ h => h
/-! ### Reading -/
theorem Ow.at {B H : AH} {L : List Th} (h : Ow B H L) {k : Nat} {p : Th} (hk : L[k]? = some p) : ∃ S, (∀ i, S i → B.next ≤ i ∧ i < H.next) ∧ p.p H S := by
  obtain ⟨o, ho⟩ := h.own
  exact ⟨_, fun i hi => ⟨hi.1, hi.2.1⟩, ho k p hk⟩
theorem Ow.ne {B H : AH} {L : List Th} (h : Ow B H L) {j k a b : Nat} {p q : Th} (hj : L[j]? = some p) (hk : L[k]? = some q) (hjk : j ≠ k) (ha : ∀ S, p.p H S → S a) (hb : ∀ S, q.p H S → S b) : a ≠ b := by
  obtain ⟨o, ho⟩ := h.own
  have h1 := (ha _ (ho j p hj)).2.2
  have h2 := (hb _ (ho k q hk)).2.2
  intro e
  subst e
  omega
theorem Ow.len {B H : AH} {L : List Th} (h : Ow B H L) (k : Nat) {z n : Nat} {ty : TypeId} {v : Value} {vs : List Value} (hk : L[k]? = some (.sl z ty v n vs)) : vs.length = n * z := by
  obtain ⟨S, _, hp⟩ := h.at hk
  exact hp.1
theorem Ow.get {B H : AH} {L : List Th} (h : Ow B H L) (k : Nat) {z n : Nat} {ty : TypeId} {v : Value} {vs : List Value} (hk : L[k]? = some (.sl z ty v n vs)) (hn : 0 < n) :
    ∃ i, B.next ≤ i ∧ i < H.next ∧ v = .slice (some ⟨i, 0, some z⟩) n n ∧ H.row i = some ⟨ty, true, vs⟩ := by
  obtain ⟨S, hS, hp⟩ := h.at hk
  rcases hp.2 with ⟨h0, _⟩ | ⟨i, h1, h2, h3⟩
  · omega
  · exact ⟨i, (hS i h1).1, (hS i h1).2, h2, h3⟩
theorem Ow.getV {B H : AH} {L : List Th} (h : Ow B H L) (k : Nat) {z n i m c o : Nat} {u : Option Nat} {ty : TypeId} {vs : List Value} (hk : L[k]? = some (.sl z ty (.slice (some ⟨i, o, u⟩) m c) n vs)) :
    B.next ≤ i ∧ i < H.next ∧ H.row i = some ⟨ty, true, vs⟩ := by
  obtain ⟨S, hS, hp⟩ := h.at hk
  rcases hp.2 with ⟨h0, h1⟩ | ⟨i', h1, h2, h3⟩
  · cases h1
  · cases h2
    exact ⟨(hS i h1).1, (hS i h1).2, h3⟩
theorem Ow.rowAt {B H : AH} {L : List Th} (h : Ow B H L) (k : Nat) {i : Nat} {r : Row} (hk : L[k]? = some (.row i r)) : H.row i = some r ∧ B.next ≤ i ∧ i < H.next := by
  obtain ⟨S, hS, hp⟩ := h.at hk
  exact ⟨hp.2, hS i hp.1⟩
theorem Ow.one {B H : AH} {L : List Th} (h : Ow B H L) (k : Nat) {z n : Nat} {ty : TypeId} {v : Value} {vs : List Value} (hk : L[k]? = some (.sl z ty v n vs)) : v.oneCell' = true := by
  obtain ⟨S, _, hp⟩ := h.at hk
  rcases hp.2 with ⟨_, rfl⟩ | ⟨i, _, rfl, _⟩ <;> rfl
theorem Ow.fr {B H : AH} {L : List Th} (h : Ow B H L) (k : Nat) {z n : Nat} {ty : TypeId} {v : Value} {l : List Int} (hk : L[k]? = some (.sl z ty v n (ints l))) : Fr z ty B.next H.next H v n l := by
  obtain ⟨S, hS, hp⟩ := h.at hk
  refine ⟨by have := hp.1; rwa [ints_length] at this, hp.2.imp id fun ⟨i, h1, h2, h3⟩ => ⟨i, (hS i h1).1, (hS i h1).2, h2, h3⟩⟩
theorem Ow.rd {B H : AH} {L : List Th} (h : Ow B H L) (k : Nat) {z n : Nat} {ty : TypeId} {v : Value} {l : List Int} (hk : L[k]? = some (.sl z ty v n (ints l))) : Rd z H v n l := (h.fr k hk).rd
theorem sl_mem {z n i m c o : Nat} {u : Option Nat} {ty : TypeId} {vs : List Value} {H : AH} (S : Nat → Prop) (h : (Th.sl z ty (.slice (some ⟨i, o, u⟩) m c) n vs).p H S) : S i := by
  rcases h.2 with ⟨h0, h1⟩ | ⟨i', h1, h2, h3⟩
  · cases h1
  · cases h2; exact h1
/-! ### New things, writing -/
theorem Ow.push {B H : AH} {L : List Th} (h : Ow B H L) (r : Row) : Ow B (H.push r) (L ++ [.row H.next r]) :=
  h.add _ (Nat.le_succ _) (h.sc.push r) (fun i hi => by rw [AH.push_row, if_neg (by omega)]) fun S hS => ⟨hS _ (Nat.le_refl _) (Nat.lt_succ_self _), by rw [AH.push_row, if_pos rfl]⟩
theorem Ow.tmp {B H : AH} {L : List Th} (h : Ow B H L) (r : Row) : Ow B (H.push r) L :=
  h.keep (Nat.le_succ _) (h.sc.push r) fun i hi => by rw [AH.push_row, if_neg (by omega)]
theorem Ow.pushSl {B H : AH} {L : List Th} (h : Ow B H L) {k n : Nat} {ty : TypeId} {vs : List Value} (hl : vs.length = n * k) : Ow B (H.push ⟨ty, true, vs⟩) (L ++ [.sl k ty (.slice (some ⟨H.next, 0, some k⟩) n n) n vs]) :=
  h.add _ (Nat.le_succ _) (h.sc.push _) (fun i hi => by rw [AH.push_row, if_neg (by omega)]) fun S hS => ⟨hl, .inr ⟨H.next, hS _ (Nat.le_refl _) (Nat.lt_succ_self _), rfl, by rw [AH.push_row, if_pos rfl]⟩⟩
theorem Ow.addNil {B H : AH} {L : List Th} (h : Ow B H L) (k : Nat) (ty : TypeId) : Ow B H (L ++ [.sl k ty (.slice none 0 0) 0 []]) :=
  h.add _ (Nat.le_refl _) h.sc (fun _ _ => rfl) fun S hS => ⟨by simp, .inl ⟨rfl, rfl⟩⟩
theorem Ow.put {B H : AH} {L : List Th} (h : Ow B H L) (k : Nat) {z n i m c o : Nat} {u : Option Nat} {ty : TypeId} {vs vs' : List Value} (hk : L[k]? = some (.sl z ty (.slice (some ⟨i, o, u⟩) m c) n vs)) (hl : vs'.length = vs.length) :
    Ow B (H.setCells i vs') (L.set k (.sl z ty (.slice (some ⟨i, o, u⟩) m c) n vs')) := by
  refine h.upd hk (Nat.le_refl _) (h.sc.set _ _) fun S hS hp => ?_
  have hi := sl_mem S hp
  refine ⟨fun j hj hjS => by rw [AH.setCells_row, if_neg (fun e => hjS (by rw [e]; exact hi))], fun S' hS' _ => ?_⟩
  rcases hp.2 with ⟨_, h1⟩ | ⟨i', h1, h2, h3⟩
  · cases h1
  · cases h2
    exact ⟨by rw [hl]; exact hp.1, .inr ⟨i, hS' i h1, rfl, by rw [AH.setCells_row, if_pos rfl, h3]; rfl⟩⟩
theorem Ow.putRow {B H : AH} {L : List Th} (h : Ow B H L) (k : Nat) {i : Nat} {ty : TypeId} {b : Bool} {cs cs' : List Value} (hk : L[k]? = some (.row i ⟨ty, b, cs⟩)) :
    Ow B (H.setCells i cs') (L.set k (.row i ⟨ty, b, cs'⟩)) := by
  refine h.upd hk (Nat.le_refl _) (h.sc.set _ _) fun S hS hp => ?_
  exact ⟨fun j hj hjS => by rw [AH.setCells_row, if_neg (fun e => hjS (by rw [e]; exact hp.1))], fun S' hS' _ => ⟨hS' i hp.1, by rw [AH.setCells_row, if_pos rfl, hp.2]; rfl⟩⟩
theorem Ow.app {P : Program} {E : TI} {z n c : Nat} {ty : TypeId} {B H : AH} {L : List Th} {v : Value} {vs ms : List Value} {K : Value → AH → Prop} (h : Ow B H L) (k : Nat) (hk : L[k]? = some (.sl z ty v n vs)) (hz : E.size = z) (hz0 : 0 < z) (hm : ms.length = c * z) (hc : 0 < c) (hb : E.bytes ≤ 32768) (hn : n + c ≤ 4294967296)
    (hK : ∀ v' H', H'.next = H.next + 1 → Ow B H' (L.set k (.sl z ty v' (n + c) (vs ++ ms))) → K v' H') : runOut P H (appE E ty v ms c H) K := by
  subst hz
  obtain ⟨S, hS, hp⟩ := h.at hk
  have hl := hp.1
  unfold appE
  rw [if_neg (by omega)]
  rcases hp.2 with ⟨rfl, rfl⟩ | ⟨i, h1, rfl, hr⟩
  · simp only [asSl_nil, runOut_need, runOut_val]
    have hv0 : vs = [] := List.eq_nil_of_length_eq_zero (by omega)
    subst hv0
    refine ⟨⟨by omega, hb⟩, hK _ _ rfl (h.upd hk (Nat.le_succ _) (h.sc.push _) fun S hS hp => ⟨fun j hj _ => by rw [AH.push_row, if_neg (by omega)], fun S' _ hN => ⟨by simp [hm], .inr ⟨H.next, hN _ (Nat.le_refl _) (Nat.lt_succ_self _), by simp, by rw [AH.push_row, if_pos rfl]; rfl⟩⟩⟩)⟩
  · simp only [asSl_some, hr, bindO_some, runOut_need, Nat.zero_add, hl]
    refine ⟨⟨by omega, hb, Nat.le_refl _, .inl rfl⟩, ?_⟩
    rw [if_neg (by rw [Nat.add_mul]; have := Nat.mul_pos hc hz0; omega)]
    simp only [runOut_need, runOut_val]
    refine ⟨⟨trivial, trivial, hz0, trivial, trivial⟩, hK _ _ rfl (h.upd hk (Nat.le_succ _) ((h.sc.drop i).push _) fun S hS hp => ?_)⟩
    have hi := sl_mem S hp
    refine ⟨fun j hj hjS => ?_, fun S' _ hN => ⟨by simp [hm, hl, Nat.add_mul], .inr ⟨H.next, hN _ (Nat.le_refl _) (Nat.lt_succ_self _), rfl, ?_⟩⟩⟩
    · rw [AH.push_row, if_neg (by rw [AH.drop_next]; omega), AH.drop_row, if_neg (fun e => hjS (by rw [e]; exact hi))]
    · rw [AH.push_row, AH.drop_next, if_pos rfl, seg_all _ _ hl.symm]
/-! ### From and to contracts with bounds -/
theorem Ow.of_fr {z n : Nat} {ty : TypeId} {H H' : AH} {v : Value} {l : List Int} (up : Up H.next H H') (sc : Sc H') (h : Fr z ty H.next H'.next H' v n l) : Ow H H' [.sl z ty v n (ints l)] := by
  refine ⟨sc, up.next, up.row, fun _ => 0, fun k p hk => ?_⟩
  have hk0 : k = 0 := by
    have := (List.getElem?_eq_some_iff.1 hk).1
    simp at this; omega
  subst hk0
  simp at hk
  subst hk
  exact ⟨by rw [ints_length]; exact h.1, h.2.imp id fun ⟨i, h1, h2, h3, h4⟩ => ⟨i, ⟨h1, h2, rfl⟩, h3, h4⟩⟩
theorem Ow.of_up {H H' : AH} (up : Up H.next H H') (sc : Sc H') : Ow H H' [] := ⟨sc, up.next, up.row, fun _ => 0, fun k p hk => by simp at hk⟩
end Go.Abs
end

section
namespace Go.Abs
open Go Go.RowKit
theorem sl_at {z n : Nat} {ty : TypeId} {v : Value} {vs : List Value} {H H' : AH} {S S' : Nat → Prop} (h : (Th.sl z ty v n vs).p H S) (hS : ∀ i, S i → S' i) (hr : ∀ i r, S i → H.row i = some r → H'.row i = some r) : (Th.sl z ty v n vs).p H' S' :=
  (Th.sl z ty v n vs).loc H H' S S' hS hr h
theorem Ow.get2 {α : Type} {f : α → Value} {B H : AH} {L : List Th} (h : Ow B H L) (k : Nat) {ty ty' : TypeId} {v : Value} {ll : List (List α)} (hk : L[k]? = some (.sl2 f ty ty' v ll)) {j : Nat} (hj : j < ll.length) :
    ∃ i vs x, B.next ≤ i ∧ i < H.next ∧ v = .slice (some ⟨i, 0, some 1⟩) ll.length ll.length ∧ H.row i = some ⟨ty, true, vs⟩ ∧ vs.length = ll.length ∧ vs[j]? = some x ∧ x.oneCell' = true ∧
      (0 < (ll.getD j []).length → ∃ q, B.next ≤ q ∧ q < H.next ∧ q ≠ i ∧ x = .slice (some ⟨q, 0, some 1⟩) (ll.getD j []).length (ll.getD j []).length ∧ H.row q = some ⟨ty', true, (ll.getD j []).map f⟩) := by
  obtain ⟨S, hS, hp⟩ := h.at hk
  rcases hp with ⟨rfl, _⟩ | ⟨i, vs, o, h1, h2, h3, h4, h5, h6⟩
  · simp at hj
  · obtain ⟨x, hx, hq⟩ := h6 j hj
    refine ⟨i, vs, x, (hS i h1).1, (hS i h1).2, h3, h4, h5, hx, ?_, fun hl => ?_⟩
    · rcases hq.2 with ⟨_, rfl⟩ | ⟨_, _, rfl, _⟩ <;> rfl
    · rcases hq.2 with ⟨h0, _⟩ | ⟨q, q1, q2, q3⟩
      · omega
      · exact ⟨q, (hS q q1.1).1, (hS q q1.1).2, fun e => by rw [e] at q1; omega, q2, q3⟩
theorem Ow.set2 {α : Type} {f : α → Value} {B H : AH} {L : List Th} (h : Ow B H L) (k : Nat) {ty ty' : TypeId} {i q n c m : Nat} {ll : List (List α)} {vs : List Value} (hk : L[k]? = some (.sl2 f ty ty' (.slice (some ⟨i, 0, some 1⟩) n c) ll)) {j : Nat} (hj : j < ll.length) {l' : List α} (hl : l'.length = (ll.getD j []).length)
    (hr : H.row i = some ⟨ty, true, vs⟩) (hx : vs[j]? = some (.slice (some ⟨q, 0, some 1⟩) m m)) :
    Ow B (H.setCells q (l'.map f)) (L.set k (.sl2 f ty ty' (.slice (some ⟨i, 0, some 1⟩) n c) (ll.set j l'))) := by
  refine h.upd hk (Nat.le_refl _) (h.sc.set _ _) fun S hS hp => ?_
  rcases hp with ⟨rfl, _⟩ | ⟨i', vs', o, h1, h2, h3, h4, h5, h6⟩
  · simp at hj
  simp only [Value.slice.injEq, Option.some.injEq, Addr.mk.injEq] at h3
  obtain ⟨⟨rfl, _, _⟩, rfl, rfl⟩ := h3
  rw [hr] at h4
  simp only [Option.some.injEq, Row.mk.injEq, true_and] at h4
  subst h4
  obtain ⟨x, hx', hq⟩ := h6 j hj
  rw [hx] at hx'
  cases hx'
  have hqS := sl_mem _ hq
  have hqi : q ≠ i := fun e => by rw [e] at hqS; omega
  refine ⟨fun z hz hzS => by rw [AH.setCells_row, if_neg (fun e => hzS (by rw [e]; exact hqS.1))], fun S' hS' _ => .inr ⟨i, vs, o, hS' i h1, h2, by rw [List.length_set], by rw [AH.setCells_row, if_neg (Ne.symm hqi)]; exact hr, by rw [List.length_set]; exact h5, fun z hz => ?_⟩⟩
  rw [List.length_set] at hz
  by_cases e : z = j
  · subst e
    have e1 : (ll.set z l').getD z [] = l' := by simp [List.getD_eq_getElem?_getD, hz]
    rw [e1]
    refine ⟨_, hx, ?_⟩
    rcases hq.2 with ⟨h0, h7⟩ | ⟨q', q1, q2, q3⟩
    · cases h7
    · cases q2
      rw [hl]
      refine ⟨by simp [hl], .inr ⟨q, ⟨hS' q q1.1, q1.2⟩, rfl, by rw [AH.setCells_row, if_pos rfl, q3]; rfl⟩⟩
  · have e1 : (ll.set j l').getD z [] = ll.getD z [] := by simp [List.getD_eq_getElem?_getD, List.getElem?_set, Ne.symm e]
    rw [e1]
    obtain ⟨y, hy, hz2⟩ := h6 z hz
    refine ⟨y, hy, sl_at hz2 (fun w hw => ⟨hS' w hw.1, hw.2⟩) fun w r hw hwr => ?_⟩
    rw [AH.setCells_row, if_neg (fun e2 => by rw [e2] at hw; omega)]
    exact hwr
def Th.both (p q : Th) : Th where
  p := fun H S => ∃ o : Nat → Bool, p.p H (fun i => S i ∧ o i = true) ∧ q.p H (fun i => S i ∧ o i = false)
  loc := fun H H' S S' hS hr ⟨o, h1, h2⟩ => ⟨o, p.loc H H' _ _ (fun i hi => ⟨hS i hi.1, hi.2⟩) (fun i r hi => hr i r hi.1) h1, q.loc H H' _ _ (fun i hi => ⟨hS i hi.1, hi.2⟩) (fun i r hi => hr i r hi.1) h2⟩
theorem Ow.merge {B H : AH} {L : List Th} (h : Ow B H L) (k m : Nat) {p q : Th} (hk : L[k]? = some p) (hm : L[m]? = some q) (hkm : k ≠ m) : Ow B H ((L.set k (p.both q)).set m .no) := by
  obtain ⟨o, ho⟩ := h.own
  refine ⟨h.sc, h.next, h.low, fun i => if o i = m then k else o i, fun j r hj => ?_⟩
  have hm' : (L.set k (p.both q))[m]? = some q := by rw [List.getElem?_set, if_neg hkm]; exact hm
  rcases set_get hm' hj with ⟨rfl, rfl⟩ | ⟨hjm, hj⟩
  · trivial
  · rcases set_get hk hj with ⟨rfl, rfl⟩ | ⟨hjk, hj⟩
    · refine ⟨fun i => decide (o i = j), p.loc H H _ _ (fun i hi => ⟨⟨hi.1, hi.2.1, ?_⟩, decide_eq_true hi.2.2⟩) (fun i r _ hr => hr) (ho j p hk), q.loc H H _ _ (fun i hi => ⟨⟨hi.1, hi.2.1, ?_⟩, decide_eq_false fun e => hjm (e.symm.trans hi.2.2)⟩) (fun i r _ hr => hr) (ho m q hm)⟩
      · show (if o i = m then j else o i) = j
        split
        · rfl
        · exact hi.2.2
      · show (if o i = m then j else o i) = j
        rw [if_pos hi.2.2]
    · refine r.loc H H _ _ (fun i hi => ⟨hi.1, hi.2.1, ?_⟩) (fun i r _ hr => hr) (ho j r hj)
      show (if o i = m then k else o i) = j
      rw [if_neg (fun e => hjm (hi.2.2.symm.trans e))]
      exact hi.2.2
theorem Ow.app2 {α : Type} {f : α → Value} {P : Program} {E : TI} {n : Nat} {ty ty' : TypeId} {B H : AH} {L : List Th} {v x : Value} {ll : List (List α)} {l : List α} {K : Value → AH → Prop} (h : Ow B H L) (k m : Nat) (hk : L[k]? = some (.sl2 f ty ty' v ll)) (hm : L[m]? = some (.sl 1 ty' x n (l.map f))) (hkm : k ≠ m) (hz : E.size = 1) (hb : E.bytes ≤ 32768) (hn : ll.length + 1 ≤ 4294967296)
    (hK : ∀ v' H', H'.next = H.next + 1 → Ow B H' ((L.set k (.sl2 f ty ty' v' (ll ++ [l]))).set m .no) → K v' H') : runOut P H (appE E ty v [x] 1 H) K := by
  have hln : n = l.length := by have := h.len m hm; simp at this; omega
  subst hln
  have hM := h.merge k m hk hm hkm
  have hkl := (List.getElem?_eq_some_iff.1 hk).1
  have hk' : ((L.set k ((Th.sl2 f ty ty' v ll).both (.sl 1 ty' x l.length (l.map f)))).set m .no)[k]? = some ((Th.sl2 f ty ty' v ll).both (.sl 1 ty' x l.length (l.map f))) := by
    rw [List.getElem?_set, if_neg (Ne.symm hkm), List.getElem?_set, if_pos rfl, if_pos hkl]
  have eL : ∀ v', ((L.set k ((Th.sl2 f ty ty' v ll).both (.sl 1 ty' x l.length (l.map f)))).set m .no).set k (.sl2 f ty ty' v' (ll ++ [l])) = (L.set k (.sl2 f ty ty' v' (ll ++ [l]))).set m .no := fun v' => by
    rw [List.set_comm _ _ (Ne.symm hkm), List.set_set]
  obtain ⟨S, hS, hp⟩ := h.at hk
  have lst : (ll ++ [l]).getD ll.length [] = l := by simp [List.getD_eq_getElem?_getD]
  have lld : ∀ j, j < ll.length → (ll ++ [l]).getD j [] = ll.getD j [] := fun j hj => by simp [List.getD_eq_getElem?_getD, List.getElem?_append_left hj]
  unfold appE
  rw [if_neg (by omega)]
  rcases hp with ⟨hll, rfl⟩ | ⟨i, vs, o, h1, h2, rfl, hr, h5, h6⟩
  · simp only [asSl_nil, runOut_need, runOut_val, hz]
    refine ⟨⟨by omega, hb⟩, hK _ _ rfl ?_⟩
    rw [← eL]
    refine hM.upd hk' (Nat.le_succ _) (h.sc.push _) fun S hS hp => ⟨fun j hj _ => by rw [AH.push_row, if_neg (by omega)], fun S' hS' hN => ?_⟩
    obtain ⟨b, _, hq⟩ := hp
    subst hll
    refine .inr ⟨H.next, [x], fun z => if z = H.next then 0 else 1, hN _ (Nat.le_refl _) (Nat.lt_succ_self _), if_pos rfl, rfl, by rw [AH.push_row, if_pos rfl], rfl, fun j hj => ?_⟩
    have hj0 : j = 0 := by simp at hj; omega
    subst hj0
    refine ⟨x, rfl, sl_at hq (fun w hw => ⟨hS' w hw.1, ?_⟩) fun w r hw hwr => by rw [AH.push_row, if_neg (by have := (hS w hw.1).2; omega)]; exact hwr⟩
    show (if w = H.next then 0 else 1) = 1
    rw [if_neg (by have := (hS w hw.1).2; omega)]
  · simp only [asSl_some, hr, bindO_some, runOut_need, Nat.zero_add, hz, Nat.mul_one]
    refine ⟨⟨hn, hb, by omega, .inl rfl⟩, ?_⟩
    rw [if_neg (by omega)]
    simp only [runOut_need, runOut_val]
    refine ⟨by simp, hK _ _ rfl ?_⟩
    rw [← eL]
    refine hM.upd hk' (Nat.le_succ _) ((h.sc.drop i).push _) fun T hT hp => ?_
    obtain ⟨b, hp1, hq⟩ := hp
    rcases hp1 with ⟨_, h7⟩ | ⟨i', vs', u, g1, g2, g3, g4, g5, g6⟩
    · cases h7
    simp only [Value.slice.injEq, Option.some.injEq, Addr.mk.injEq] at g3
    obtain ⟨⟨rfl, _⟩, _⟩ := g3
    rw [hr] at g4
    simp only [Option.some.injEq, Row.mk.injEq, true_and] at g4
    subst g4
    have old : ∀ z, z < H.next → z ≠ i → ((H.drop i).push ⟨ty, true, seg vs 0 ll.length ++ [x]⟩).row z = H.row z := fun z z2 z3 => by
      rw [AH.push_row, if_neg (by rw [AH.drop_next]; omega), AH.drop_row, if_neg z3]
    refine ⟨fun j hj hjT => old j hj (fun e => hjT (by rw [e]; exact g1.1)), fun S' hS' hN => .inr ⟨H.next, vs ++ [x], fun z => if z = H.next then 0 else if b z = false then ll.length + 1 else u z, hN _ (Nat.le_refl _) (Nat.lt_succ_self _), if_pos rfl, by rw [List.length_append]; rfl, ?_, by rw [List.length_append, List.length_append, h5]; rfl, fun j hj => ?_⟩⟩
    · rw [AH.push_row, AH.drop_next, if_pos rfl, seg_all _ _ h5.symm]
    · rw [List.length_append, List.length_singleton] at hj
      by_cases c : j < ll.length
      · obtain ⟨y, hy, hz2⟩ := g6 j c
        rw [lld j c]
        refine ⟨y, by rw [List.getElem?_append_left (by omega)]; exact hy, sl_at hz2 (fun w hw => ⟨hS' w hw.1.1, ?_⟩) fun w r hw hwr => ?_⟩
        · show (if w = H.next then 0 else if b w = false then ll.length + 1 else u w) = j + 1
          have := (hT w hw.1.1).2
          rw [if_neg (by omega), if_neg (by rw [hw.1.2]; simp)]; exact hw.2
        · have := (hT w hw.1.1).2
          rw [old w this (fun e => by rw [e] at hw; omega)]; exact hwr
      · have c4 : j = ll.length := by omega
        subst c4
        rw [lst]
        refine ⟨x, by rw [← h5, List.getElem?_append_right (Nat.le_refl _)]; simp, sl_at hq (fun w hw => ⟨hS' w hw.1, ?_⟩) fun w r hw hwr => ?_⟩
        · show (if w = H.next then 0 else if b w = false then ll.length + 1 else u w) = ll.length + 1
          have := (hT w hw.1).2
          rw [if_neg (by omega), if_pos hw.2]
        · have := (hT w hw.1).2
          rw [old w this (fun e => by rw [e] at hw; rw [g1.2] at hw; cases hw.2)]; exact hwr
theorem Ow.pushSl2 {α : Type} (f : α → Value) {B H : AH} {L : List Th} (h : Ow B H L) (ty ty' : TypeId) : Ow B (H.push ⟨ty, true, []⟩) (L ++ [.sl2 f ty ty' (.slice (some ⟨H.next, 0, some 1⟩) 0 0) ([] : List (List α))]) :=
  h.add _ (Nat.le_succ _) (h.sc.push _) (fun i hi => by rw [AH.push_row, if_neg (by omega)]) fun S hS => .inr ⟨H.next, [], fun _ => 0, hS _ (Nat.le_refl _) (Nat.lt_succ_self _), rfl, rfl, by rw [AH.push_row, if_pos rfl], rfl, fun j hj => by simp at hj⟩
theorem Ow.rd2 {B H : AH} {L : List Th} (h : Ow B H L) (k : Nat) {ty ty' : TypeId} {v : Value} {ll : List (List Int)} (hk : L[k]? = some (.sl2 (Value.int .i64) ty ty' v ll)) : Rd2 1 H v ll := by
  obtain ⟨S, hS, hp⟩ := h.at hk
  rcases hp with ⟨h1, h2⟩ | ⟨i, vs, o, h1, h2, rfl, h4, h5, h6⟩
  · exact .inl ⟨h1, none, 0, h2, fun _ => rfl⟩
  · refine .inr ⟨i, 0, some 1, _, _, rfl, h4, fun j hj => ?_⟩
    obtain ⟨x, hx, hq⟩ := h6 j hj
    refine ⟨x, _, by rw [Nat.zero_add]; exact hx, (Fr.rd (ty := ty') (lo := 0) (hi := H.next) ⟨by simp, ?_⟩ : Rd 1 H x (ll.getD j []).length (ll.getD j []))⟩
    rcases hq.2 with h7 | ⟨q, q1, q2, q3⟩
    · exact .inl h7
    · exact .inr ⟨q, Nat.zero_le _, (hS q q1.1).2, q2, q3⟩
theorem Ow.of_fr2 {ty ty' : TypeId} {H H' : AH} {v : Value} {ll : List (List Int)} (up : Up H.next H H') (sc : Sc H') (h : Fr2 1 ty ty' H.next H'.next H' v ll) : Ow H H' [.sl2 (Value.int .i64) ty ty' v ll] := by
  refine ⟨sc, up.next, up.row, fun _ => 0, fun k p hk => ?_⟩
  have hk0 : k = 0 := by
    have := (List.getElem?_eq_some_iff.1 hk).1
    simp at this; omega
  subst hk0
  simp at hk
  subst hk
  rcases h with h | ⟨i, vs, b, h1, h2, rfl, hr, hl, g0, gn, gi, gm, hh⟩
  · exact .inl h
  · classical
    refine .inr ⟨i, vs, fun z => if z = i then 0 else if hz : ∃ j, j < ll.length ∧ b j ≤ z ∧ z < b (j + 1) then Classical.choose hz + 1 else 0, ⟨h1, h2, rfl⟩, if_pos rfl, rfl, hr, hl, fun j hj => ?_⟩
    obtain ⟨x, m, hx, hf⟩ := hh j hj
    have m1 := mono_of_step gm (Nat.zero_le j)
    have m2 := mono_of_step gm (show j + 1 ≤ ll.length from hj)
    have hm := hf.lenK1
    refine ⟨x, hx, ⟨by simp, ?_⟩⟩
    rcases hf.2 with ⟨h3, h4⟩ | ⟨q, q1, q2, q3, q4⟩
    · exact .inl ⟨by omega, h4⟩
    · refine .inr ⟨q, ⟨⟨by omega, by omega, rfl⟩, ?_⟩, by rw [← hm]; exact q3, q4⟩
      show (if q = i then 0 else if hz : ∃ j, j < ll.length ∧ b j ≤ q ∧ q < b (j + 1) then Classical.choose hz + 1 else 0) = j + 1
      have hex : ∃ j, j < ll.length ∧ b j ≤ q ∧ q < b (j + 1) := ⟨j, hj, q1, q2⟩
      rw [if_neg (by rcases gi with g | g <;> omega), dif_pos hex]
      obtain ⟨c1, c2, c3⟩ := Classical.choose_spec hex
      have : Classical.choose hex = j := by
        apply Classical.byContradiction
        intro hne
        rcases Nat.lt_or_gt_of_ne hne with hl | hl
        · have := mono_of_step gm (show Classical.choose hex + 1 ≤ j from hl); omega
        · have := mono_of_step gm (show j + 1 ≤ Classical.choose hex from hl); omega
      rw [this]
end Go.Abs
end

section
set_option maxRecDepth 100000
set_option maxHeartbeats 2000000
namespace Go.Proofs.Ytpienljnoaendaa.A
open Go Go.Abs Go.RowKit
def CodeOk (H : AH) (cv : Value) (nb : Nat) : Prop :=
  (nb = 0 ∧ ∃ a c, cv = .slice a 0 c) ∨ ∃ i o u c r, cv = .slice (some ⟨i, o, u⟩) nb c ∧ H.row i = some r ∧ ∀ j, j < nb → ∃ x, r.cells[o + j]? = some (.int .u8 x) ∧ 0 ≤ x ∧ x ≤ 255
theorem CodeOk.len {H : AH} {cv : Value} {nb : Nat} (h : CodeOk H cv nb) (H' : AH) : asSl cv (.val (.int .i64 0) H') (fun _ _ _ n _ => .val (.int .i64 (n : Int)) H') = .val (.int .i64 (nb : Int)) H' := by
  rcases h with ⟨rfl, a, c, rfl⟩ | ⟨i, o, u, c, r, rfl, _⟩
  · cases a <;> rfl
  · rfl
theorem CodeOk.one {H : AH} {cv : Value} {nb : Nat} (h : CodeOk H cv nb) : cv.oneCell' = true := by
  rcases h with ⟨rfl, a, c, rfl⟩ | ⟨i, o, u, c, r, rfl, _⟩ <;> rfl
theorem CodeOk.get {H : AH} {cv : Value} {nb : Nat} (h : CodeOk H cv nb) {j : Nat} (hj : j < nb) : ∃ i o u c r x, cv = .slice (some ⟨i, o, u⟩) nb c ∧ H.row i = some r ∧ r.cells[o + j]? = some (.int .u8 x) ∧ 0 ≤ x ∧ x ≤ 255 := by
  rcases h with ⟨rfl, _⟩ | ⟨i, o, u, c, r, rfl, hr, hx⟩
  · omega
  · obtain ⟨x, h1, h2, h3⟩ := hx j hj
    exact ⟨i, o, u, c, r, x, rfl, hr, h1, h2, h3⟩
def Src (cv : Value) (nb si : Nat) (H : AH) : Prop := ∃ (a : Nat) (h : Int), H.row si = some ⟨63, true, [cv, .int .i64 a, .int .u64 h]⟩ ∧ a ≤ nb
structure SrcB (cv : Value) (nb si : Nat) (H H' : AH) : Prop where
  next : H'.next = H.next
  row : ∀ i, i ≠ si → H'.row i = H.row i
  src : Src cv nb si H'
theorem SrcB.refl {cv : Value} {nb si : Nat} {H : AH} (h : Src cv nb si H) : SrcB cv nb si H H := ⟨rfl, fun _ _ => rfl, h⟩
theorem SrcB.trans {cv : Value} {nb si : Nat} {A B C : AH} (h : SrcB cv nb si A B) (k : SrcB cv nb si B C) : SrcB cv nb si A C := ⟨k.next.trans h.next, fun i hi => (k.row i hi).trans (h.row i hi), k.src⟩
def CodeX (cv : Value) (nb si : Nat) (H : AH) : Prop := ∀ H', (∀ i r, i ≠ si → H.row i = some r → H'.row i = some r) → CodeOk H' cv nb
theorem CodeX.now {cv : Value} {nb si : Nat} {H : AH} (h : CodeX cv nb si H) : CodeOk H cv nb := h H fun _ _ _ k => k
theorem CodeX.later {cv : Value} {nb si : Nat} {H H' : AH} (h : CodeX cv nb si H) (hs : ∀ i r, i ≠ si → H.row i = some r → H'.row i = some r) : CodeX cv nb si H' := fun H2 h2 => h H2 fun i r hi hr => h2 i r hi (hs i r hi hr)
theorem SrcB.sc {cv : Value} {nb si : Nat} {H H' : AH} (h : SrcB cv nb si H H') (hs : Sc H) (hi : si < H.next) : Sc H' := fun i r hr => by
  rw [h.next]
  by_cases e : i = si
  · rw [e]; exact hi
  · rw [h.row i e] at hr; exact hs i r hr
theorem Ow.src {cv : Value} {nb si : Nat} {B H H' : AH} {L : List Th} (h : Ow B H L) (hi : si < B.next) (k : SrcB cv nb si H H') : ∃ B', SrcB cv nb si B B' ∧ Ow B' H' L := by
  have hb := h.next
  have hsr := k.src
  refine ⟨⟨B.next, fun i => if i = si then H'.row si else B.row i⟩, ⟨rfl, fun i hi => if_neg hi, ?_⟩, ⟨k.sc h.sc (by omega), by rw [k.next]; exact h.next, fun i hi2 => ?_, ?_⟩⟩
  · obtain ⟨a, x, h1, h2⟩ := hsr
    exact ⟨a, x, by show (if si = si then H'.row si else B.row si) = _; rw [if_pos rfl]; exact h1, h2⟩
  · show H'.row i = if i = si then H'.row si else B.row i
    by_cases e : i = si
    · rw [if_pos e, e]
    · rw [if_neg e, k.row i e, h.low i hi2]
  · obtain ⟨o, ho⟩ := h.own
    refine ⟨o, fun j q hj => q.loc H H' _ _ (fun i hi2 => ⟨hi2.1, by rw [k.next]; exact hi2.2.1, hi2.2.2⟩) (fun i r hi2 hr => ?_) (ho j q hj)⟩
    have hbn : B.next ≤ i := hi2.1
    rw [k.row i (by omega)]; exact hr
theorem Ow.srcCall {cv : Value} {nb si : Nat} {B H H1 H' : AH} {L M : List Th} (h : Ow B H L) (hi : si < B.next) (k : SrcB cv nb si H H1) (o : Ow H1 H' M) : ∃ B', SrcB cv nb si B B' ∧ Ow B' H' (L ++ M) := by
  obtain ⟨B', b1, b2⟩ := Ow.src h hi k
  exact ⟨B', b1, b2.call o⟩
theorem Ow.oldX {cv : Value} {nb si : Nat} {A B H : AH} {L : List Th} (h : Ow B H L) (k : SrcB cv nb si A B) (hs : Sc A) : ∀ i r, i ≠ si → A.row i = some r → H.row i = some r := fun i r hi hr => by
  rw [h.low i (by rw [k.next]; exact hs i r hr), k.row i hi, hr]
theorem Ow.srcAt {cv : Value} {nb si : Nat} {A B H : AH} {L : List Th} (h : Ow B H L) (k : SrcB cv nb si A B) (hi : si < A.next) : Src cv nb si H := by
  obtain ⟨a, x, h1, h2⟩ := k.src
  exact ⟨a, x, by rw [h.low si (by rw [k.next]; exact hi), h1], h2⟩
theorem and24 (x : Int) : ∃ y : Nat, IntKind.u64.wrap (BitVec.ofInt IntKind.u64.bits x &&& BitVec.ofInt IntKind.u64.bits 16777215).toNat = (y : Int) ∧ y ≤ 16777215 := by
  refine ⟨(BitVec.ofInt 64 x &&& BitVec.ofInt 64 16777215).toNat, ?_, ?_⟩
  · have h : (BitVec.ofInt 64 x &&& BitVec.ofInt 64 16777215).toNat ≤ 16777215 := by
      rw [BitVec.toNat_and]
      exact Nat.le_trans Nat.and_le_right (by decide)
    have hb : IntKind.u64.bits = 64 := rfl
    rw [hb]
    generalize (BitVec.ofInt 64 x &&& BitVec.ofInt 64 16777215).toNat = y at h ⊢
    unfold IntKind.wrap
    simp only [IntKind.bits, IntKind.signed, Bool.false_and, Bool.false_eq_true, if_false]
    omega
  · rw [BitVec.toNat_and]
    exact Nat.le_trans Nat.and_le_right (by decide)
theorem tmodN {y n : Int} (hy : 0 ≤ y) (hn : ¬ n < 1) : ∃ x : Nat, y.tmod n = (x : Int) ∧ (x : Int) < n := by
  have h1 := Int.emod_nonneg y (show n ≠ 0 by omega)
  have h2 := Int.emod_lt_of_pos y (show 0 < n by omega)
  exact ⟨(y % n).toNat, by rw [Int.tmod_eq_emod_of_nonneg hy]; omega, by omega⟩
theorem l01Next_c (cv : Value) (nb si : Nat) (n : Int) (H : AH) (hn : n ≤ 9223372036854775807) (hnb : nb ≤ 4611686018427387904) (hs : Src cv nb si H) (hc : CodeX cv nb si H) :
    ACalls Try.prog 41 [.pointer (some ⟨si, 0, none⟩), .int .i64 n] H (fun v H' => ∃ x : Nat, v = .int .i64 x ∧ ((n < 1 ∧ x = 0) ∨ (x : Int) < n) ∧ SrcB cv nb si H H') := by
  refine acalls_of_awp [.tmp 4] Try.func41 (by kernel_rfl) rfl rfl (Nat.le_of_ble_eq_true rfl) (by kernel_rfl) ?_
  by_cases hn1 : n < 1
  · have e1 : decide (n < 1) = true := decide_eq_true hn1
    try simp (disch := first | omega | (simp only [L3] <;> omega)) only [Sall,evalOp,init,binA_s,binE,binI,unE,convE,okNil,builtE,gv,TD.isAgg,resV,↓reduceIte,Nat.reduceEqDiff,reduceCtorEq,Nat.reduceAdd,Nat.reduceMul,Nat.reduceLeDiff,quietOp,blindOp,Int.reduceEq,Int.reduceLT,Int.reduceLE,Nat.reduceLT,tiA,tiXA, e1]
    exact ⟨0, rfl, .inl ⟨hn1, rfl⟩, SrcB.refl hs⟩
  · have e1 : decide (n < 1) = false := decide_eq_false hn1
    obtain ⟨a, hh, hrow, ha⟩ := hs
    have hone := hc.now.one
    obtain ⟨y, hy1, hy2⟩ := and24 ((IntKind.u64.wrap (IntKind.u64.wrap (hh * 6364136223846793005) + 1442695040888963407)).fdiv (2 ^ min (Int.toNat 33) IntKind.u64.bits))
    have ey : IntKind.i64.wrap (y : Int) = (y : Int) := w64 (by omega)
    obtain ⟨h2, eh2⟩ : ∃ h2, h2 = IntKind.u64.wrap (IntKind.u64.wrap (hh * 6364136223846793005) + 1442695040888963407) := ⟨_, rfl⟩
    rw [← eh2] at hy1
    try simp (disch := first | omega | (simp only [L3] <;> omega)) only [Sall,evalOp,init,binA_s,binE,binI,unE,convE,okNil,builtE,gv,TD.isAgg,resV,↓reduceIte,Nat.reduceEqDiff,reduceCtorEq,Nat.reduceAdd,Nat.reduceMul,Nat.reduceLeDiff,quietOp,blindOp,Int.reduceEq,Int.reduceLT,Int.reduceLE,Nat.reduceLT,tiA,tiXA, e1, hrow, hone, ← eh2, hy1, ey]
    obtain ⟨H1, g1⟩ : ∃ H1, H1 = H.setCells si [cv, .int .i64 a, .int .u64 h2] := ⟨_, rfl⟩
    have r1 : H1.row si = some ⟨63, true, [cv, .int .i64 a, .int .u64 h2]⟩ := by rw [g1, AH.setCells_row, if_pos rfl, hrow]; rfl
    have k1 : ∀ i, i ≠ si → H1.row i = H.row i := fun i hi => by rw [g1, AH.setCells_row, if_neg hi]
    have n1 : H1.next = H.next := by rw [g1]; rfl
    rw [← g1]
    clear g1
    have hc1 := hc.later (H' := H1) fun i r hi hr => by rw [k1 i hi, hr]
    have hln := hc1.now.len
    refine draw_id (by kernel_rfl) (by kernel_rfl) ?_
    by_cases ha2 : a < nb
    · have e2 : decide ((a : Int) < (nb : Int)) = true := decide_eq_true (by omega)
      obtain ⟨ci, co, cu, cc, cr, b, rfl, cr1, cr2, cb1, cb2⟩ := hc1.now.get ha2
      have ebw : IntKind.i64.wrap b = b := w64 (by omega)
      try simp (disch := first | omega | (simp only [L3] <;> omega)) only [Sall,evalOp,init,binA_s,binE,binI,unE,convE,okNil,builtE,gv,TD.isAgg,resV,↓reduceIte,Nat.reduceEqDiff,reduceCtorEq,Nat.reduceAdd,Nat.reduceMul,Nat.reduceLeDiff,quietOp,blindOp,Int.reduceEq,Int.reduceLT,Int.reduceLE,Nat.reduceLT,tiA,tiXA, r1, hone, builtE, e2]
      refine draw_id (by kernel_rfl) (by kernel_rfl) ?_
      try simp (disch := first | omega | (simp only [L3] <;> omega)) only [Sall,evalOp,init,binA_s,binE,binI,unE,convE,okNil,builtE,gv,TD.isAgg,resV,↓reduceIte,Nat.reduceEqDiff,reduceCtorEq,Nat.reduceAdd,Nat.reduceMul,Nat.reduceLeDiff,quietOp,blindOp,Int.reduceEq,Int.reduceLT,Int.reduceLE,Nat.reduceLT,tiA,tiXA, r1, hone, builtE, e2, cr1, cr2, ebw]
      (repeat refine And.intro (by omega) ?_)
      try simp (disch := first | omega | (simp only [L3] <;> omega)) only [Sall,evalOp,init,binA_s,binE,binI,unE,convE,okNil,builtE,gv,TD.isAgg,resV,↓reduceIte,Nat.reduceEqDiff,reduceCtorEq,Nat.reduceAdd,Nat.reduceMul,Nat.reduceLeDiff,quietOp,blindOp,Int.reduceEq,Int.reduceLT,Int.reduceLE,Nat.reduceLT,tiA,tiXA, r1, hone, builtE, e2, cr1, cr2, ebw, w64]
      obtain ⟨x, x1, x2⟩ := tmodN (y := (y : Int) + b) (by omega) hn1
      exact ⟨x, x1, .inr x2, ⟨n1, fun i hi => by rw [AH.setCells_row, if_neg hi, k1 i hi], ⟨a + 1, h2, by rw [AH.setCells_row, if_pos rfl, r1]; rfl, by omega⟩⟩⟩
    · have e2 : decide ((a : Int) < (nb : Int)) = false := decide_eq_false (by omega)
      try simp (disch := first | omega | (simp only [L3] <;> omega)) only [Sall,evalOp,init,binA_s,binE,binI,unE,convE,okNil,builtE,gv,TD.isAgg,resV,↓reduceIte,Nat.reduceEqDiff,reduceCtorEq,Nat.reduceAdd,Nat.reduceMul,Nat.reduceLeDiff,quietOp,blindOp,Int.reduceEq,Int.reduceLT,Int.reduceLE,Nat.reduceLT,tiA,tiXA, r1, hone, builtE, hln, e2]
      obtain ⟨x, x1, x2⟩ := tmodN (y := (y : Int)) (by omega) hn1
      exact ⟨by omega, x, x1, .inr x2, ⟨n1, k1, ⟨a, h2, r1, ha⟩⟩⟩
theorem l01Pick_c (cv : Value) (nb si : Nat) (lv : Value) (k : Nat) (l : List Int) (H : AH) (hk : 0 < k) (hk2 : k ≤ 4294967296) (hnb : nb ≤ 4611686018427387904) (hs : Src cv nb si H) (hc : CodeX cv nb si H) (hl : ∀ H', SrcB cv nb si H H' → Rd 1 H' lv k l) :
    ACalls Try.prog 42 [.pointer (some ⟨si, 0, none⟩), lv] H (fun v H' => ∃ x : Int, v = .int .i64 x ∧ x ∈ l ∧ SrcB cv nb si H H') := by
  refine acalls_of_awp [.tmp 4] Try.func42 (by kernel_rfl) rfl rfl (Nat.le_of_ble_eq_true rfl) (by kernel_rfl) ?_
  have hr := hl H (SrcB.refl hs)
  have hln := hr.len
  have hlk := hr.lenK1
  try simp (disch := first | omega | (simp only [L3] <;> omega)) only [Sall,evalOp,init,binA_s,binE,binI,unE,convE,okNil,builtE,gv,TD.isAgg,resV,↓reduceIte,Nat.reduceEqDiff,reduceCtorEq,Nat.reduceAdd,Nat.reduceMul,Nat.reduceLeDiff,quietOp,blindOp,Int.reduceEq,Int.reduceLT,Int.reduceLE,Nat.reduceLT,tiA,tiXA, builtE, hln]
  refine (l01Next_c cv nb si k H (by omega) hnb hs hc).ex ?_
  rintro x H1 ⟨hx, hS⟩
  have hxk : x < k := by rcases hx with h | h <;> omega
  obtain ⟨i, o, u, c, r, rfl, r1, r2, r3, r4⟩ := (hl H1 hS).get hk
  have r5 := r3 x (by omega)
  refine Holds.mp ?_
  try simp (disch := first | omega | (simp only [L3] <;> omega)) only [Sall,evalOp,init,binA_s,binE,binI,unE,convE,okNil,builtE,gv,TD.isAgg,resV,↓reduceIte,Nat.reduceEqDiff,reduceCtorEq,Nat.reduceAdd,Nat.reduceMul,Nat.reduceLeDiff,quietOp,blindOp,Int.reduceEq,Int.reduceLT,Int.reduceLE,Nat.reduceLT,tiA,tiXA, r1, r5]
  refine ⟨⟨by omega, by omega⟩, ?_, hS⟩
  rw [List.getD_eq_getElem?_getD, List.getElem?_eq_getElem (by omega)]
  exact List.getElem_mem _
theorem l01Near_c (cv : Value) (nb si : Nat) (m : Int) (H : AH) (hm : -1 ≤ m ∧ m ≤ 4294967296) (hnb : nb ≤ 4611686018427387904) (hs : Src cv nb si H) (hc : CodeX cv nb si H) (hsc : Sc H) :
    ACalls Try.prog 22 [.pointer (some ⟨si, 0, none⟩), .int .i64 m] H (fun v H' => ∃ x : Int, v = .int .i64 x ∧ -4611686018427387904 ≤ x ∧ x ≤ 1099511627776 ∧ ∃ H1, SrcB cv nb si H H1 ∧ Ow H1 H' []) := by
  refine acalls_of_awp [.tmp 4] Try.func22 (by kernel_rfl) rfl rfl (Nat.le_of_ble_eq_true rfl) (by kernel_rfl) ?_
  obtain ⟨_, _, hrow, _⟩ := id hs
  have hsi := hsc _ _ hrow
  try simp (disch := first | omega | (simp only [L3] <;> omega)) only [Sall,evalOp,init,binA_s,binE,binI,unE,convE,okNil,builtE,gv,TD.isAgg,resV,↓reduceIte,Nat.reduceEqDiff,reduceCtorEq,Nat.reduceAdd,Nat.reduceMul,Nat.reduceLeDiff,quietOp,blindOp,Int.reduceEq,Int.reduceLT,Int.reduceLE,Nat.reduceLT,tiA,tiXA, true_and]
  refine (l01Next_c cv nb si 14 H (by omega) hnb hs hc).ex ?_
  rintro x H1 ⟨hx, hS⟩
  have hc1 := hc.later (H' := H1) fun i r hi hr => by rw [hS.row i hi, hr]
  have hsc1 := hS.sc hsc hsi
  refine Holds.mp ?_
  by_cases h0 : (x : Int) = 0
  · have e0 : ((x : Int) == 0) = true := by rw [h0]; rfl
    have zz : zeros 4 [.int .i64 0] = [.int .i64 0, .int .i64 0, .int .i64 0, .int .i64 0] := rfl
    try simp (disch := first | omega | (simp only [L3] <;> omega)) only [Sall,evalOp,init,binA_s,binE,binI,unE,convE,okNil,builtE,gv,TD.isAgg,resV,↓reduceIte,Nat.reduceEqDiff,reduceCtorEq,Nat.reduceAdd,Nat.reduceMul,Nat.reduceLeDiff,quietOp,blindOp,Int.reduceEq,Int.reduceLT,Int.reduceLE,Nat.reduceLT,tiA,tiXA, e0, zz, w64]
    obtain ⟨H2, e2⟩ : ∃ H2, H2 = H1.push ⟨2, true, ints [-1, m + 1, 1099511627776, -4611686018427387904]⟩ := ⟨_, rfl⟩
    have e2' : H1.push ⟨2, true, [.int .i64 (-1), .int .i64 (m + 1), .int .i64 1099511627776, .int .i64 (-4611686018427387904)]⟩ = H2 := e2.symm
    rw [e2']
    have o2 : Ow H1 H2 [.sl 1 2 (.slice (some ⟨H1.next, 0, some 1⟩) 4 4) 4 (ints [-1, m + 1, 1099511627776, -4611686018427387904])] := by rw [e2]; exact (Ow.refl hsc1).pushSl rfl
    clear e2 e2'
    have hs2 : Src cv nb si H2 := Ow.srcAt o2 (SrcB.refl hS.src) (by rw [hS.next]; exact hsi)
    have hc2 := hc1.later (H' := H2) fun i r hi hr => Ow.oldX o2 (SrcB.refl hS.src) hsc1 i r hi hr
    have hfr := (o2.getV 0 rfl).2.2
    refine (l01Pick_c cv nb si _ 4 [-1, m + 1, 1099511627776, -4611686018427387904] H2 (by omega) (by omega) hnb hs2 hc2 fun H' hS' => Fr.rd (ty := 2) (lo := 0) (hi := H1.next + 1) ⟨rfl, .inr ⟨H1.next, Nat.zero_le _, Nat.lt_succ_self _, rfl, by rw [hS'.row _ (by have := hS.next; omega)]; exact hfr⟩⟩).ex ?_
    rintro y H3 ⟨hy, hS3⟩
    obtain ⟨B', b1, b2⟩ := Ow.src o2 (by rw [hS.next]; exact hsi) hS3
    refine Holds.mp ?_
    try simp (disch := first | omega | (simp only [L3] <;> omega)) only [Sall,evalOp,init,binA_s,binE,binI,unE,convE,okNil,builtE,gv,TD.isAgg,resV,↓reduceIte,Nat.reduceEqDiff,reduceCtorEq,Nat.reduceAdd,Nat.reduceMul,Nat.reduceLeDiff,quietOp,blindOp,Int.reduceEq,Int.reduceLT,Int.reduceLE,Nat.reduceLT,tiA,tiXA, true_and]
    simp only [List.mem_cons, List.not_mem_nil, or_false] at hy
    refine ⟨by omega, by omega, B', hS.trans b1, Ow.left (L := []) b2⟩
  · have e0 : ((x : Int) == 0) = false := beq_eq_false_iff_ne.2 h0
    try simp (disch := first | omega | (simp only [L3] <;> omega)) only [Sall,evalOp,init,binA_s,binE,binI,unE,convE,okNil,builtE,gv,TD.isAgg,resV,↓reduceIte,Nat.reduceEqDiff,reduceCtorEq,Nat.reduceAdd,Nat.reduceMul,Nat.reduceLeDiff,quietOp,blindOp,Int.reduceEq,Int.reduceLT,Int.reduceLE,Nat.reduceLT,tiA,tiXA, e0, w64]
    refine (l01Next_c cv nb si (m + 1) H1 (by omega) hnb hS.src hc1).ex ?_
    rintro y H2 ⟨hy, hS2⟩
    refine Holds.mp ?_
    try simp (disch := first | omega | (simp only [L3] <;> omega)) only [Sall,evalOp,init,binA_s,binE,binI,unE,convE,okNil,builtE,gv,TD.isAgg,resV,↓reduceIte,Nat.reduceEqDiff,reduceCtorEq,Nat.reduceAdd,Nat.reduceMul,Nat.reduceLeDiff,quietOp,blindOp,Int.reduceEq,Int.reduceLT,Int.reduceLE,Nat.reduceLT,tiA,tiXA, true_and]
    exact ⟨by omega, by omega, H2, hS.trans hS2, Ow.refl (hS2.sc hsc1 (by rw [hS.next]; exact hsi))⟩
end Go.Proofs.Ytpienljnoaendaa.A
end

section
namespace Go.Abs
def okAt (n : Int) (r : List Int) (a : Nat) : Bool := if n ≤ a then r.getD a 0 == 0 else decide (0 ≤ r.getD a 0 ∧ r.getD a 0 ≤ n - 1) && r.getD (r.getD a 0).toNat 0 == a
def roundB (n : Int) (r : List Int) : Bool := decide (2 ≤ n ∧ n ≤ 14) && (List.range 14).all (okAt n r)
def rnd (l : List Int) (i : Nat) : List Int := (l.drop (i * 14)).take 14
theorem all_false_of {n i : Nat} {p : Nat → Bool} (hi : i < n) (h : p i = false) : (List.range n).all p = false := by
  rw [List.all_eq_false]; exact ⟨i, by simpa using hi, by simp [h]⟩
theorem all_true_of {n : Nat} {p : Nat → Bool} (h : ∀ x, x < n → p x = true) : (List.range n).all p = true := by
  rw [List.all_eq_true]; intro x hx; exact h x (by simpa using hx)
def firstI (p : Nat → Bool) (k : Nat) : Int := match (List.range k).find? p with | some i => (i : Int) | none => -1
theorem find_at {p : Nat → Bool} {k a : Nat} (ha : a < k) (h : p a = true) (hb : ∀ x, x < a → p x = false) : (List.range k).find? p = some a := by
  rw [List.find?_range_eq_some]
  refine ⟨h, by simpa using ha, fun x hx => by simp [hb x hx]⟩
theorem firstI_at {p : Nat → Bool} {k a : Nat} (ha : a < k) (h : p a = true) (hb : ∀ x, x < a → p x = false) : firstI p k = a := by
  unfold firstI; rw [find_at ha h hb]
theorem firstI_none {p : Nat → Bool} {k : Nat} (hb : ∀ x, x < k → p x = false) : firstI p k = -1 := by
  unfold firstI
  rw [List.find?_eq_none.2 (by intro x hx; simp [hb x (by simpa using hx)])]
theorem firstI_any (p : Nat → Bool) (k : Nat) : decide (0 ≤ firstI p k) = (List.range k).any p := by
  unfold firstI
  cases h : (List.range k).find? p with
  | none => rw [List.find?_eq_none] at h; rw [List.any_eq_false.2 h]; rfl
  | some i =>
    have h1 := List.find?_some h
    have h2 := List.mem_of_find?_eq_some h
    rw [List.any_eq_true.2 ⟨i, h2, h1⟩]
    simp
end Go.Abs
end

section
namespace Go.Abs
end Go.Abs
end

section
namespace Go.Abs
def cmpI (x y : Int) : Int := if x < y then -1 else if y < x then 1 else 0
end Go.Abs
end

section
namespace Go.Abs
def meetN (now : List Int) (a b : Nat) : List Int := (now.set a (b : Int)).set b (a : Int)
def NowOk (n : Nat) (now : List Int) : Prop := now.length = 14 ∧ ∀ j, j < n → 0 ≤ now.getD j 0 ∧ now.getD j 0 < (n : Int)
theorem getD_setI (l : List Int) (i : Nat) (x : Int) (j : Nat) (h : i < l.length) : (l.set i x).getD j 0 = if j = i then x else l.getD j 0 := by
  simp only [List.getD_eq_getElem?_getD, List.getElem?_set]
  by_cases e : i = j
  · subst e; rw [if_pos rfl, if_pos h, if_pos rfl]; rfl
  · rw [if_neg e, if_neg (Ne.symm e)]
theorem meetN_get {now : List Int} {a b : Nat} (hl : now.length = 14) (ha : a < 14) (hb : b < 14) (j : Nat) : (meetN now a b).getD j 0 = if j = b then (a : Int) else if j = a then (b : Int) else now.getD j 0 := by
  unfold meetN
  rw [getD_setI _ _ _ _ (by rw [List.length_set]; omega), getD_setI _ _ _ _ (by omega)]
theorem meetN_length (now : List Int) (a b : Nat) : (meetN now a b).length = now.length := by simp [meetN]
theorem NowOk.meet {n : Nat} {now : List Int} {a b : Nat} (h : NowOk n now) (hn : n ≤ 14) (ha : a < n) (hb : b < n) : NowOk n (meetN now a b) := by
  refine ⟨by rw [meetN_length]; exact h.1, fun j hj => ?_⟩
  rw [meetN_get h.1 (by omega) (by omega)]
  have := h.2 j hj
  split
  · omega
  · split <;> omega
/-! ### Renumbering by a ranking -/
structure PermN (n : Nat) (R : List Int) : Prop where
  len : R.length = n
  rng : ∀ j, j < n → 0 ≤ R.getD j 0 ∧ R.getD j 0 < (n : Int)
  inj : ∀ i j, i < n → j < n → R.getD i 0 = R.getD j 0 → i = j
  sur : ∀ x, x < n → ∃ j, j < n ∧ R.getD j 0 = (x : Int)
end Go.Abs
end

section
namespace Go.Abs
open Go Go.RowKit
def Pt (lo hi i : Nat) (H : AH) (x : Value) (y : List Int) : Prop := ∀ H', (∀ z r, lo ≤ z → z < hi → ¬ z = i → H.row z = some r → H'.row z = some r) → Rd 1 H' x y.length y
def FrV (ty lo hi : Nat) (H : AH) (v : Value) (ll : List (List Int)) : Prop :=
  (ll = [] ∧ v = .slice none 0 0) ∨ ∃ i vs, lo ≤ i ∧ i < hi ∧ v = .slice (some ⟨i, 0, some 1⟩) ll.length ll.length ∧ H.row i = some ⟨ty, true, vs⟩ ∧ vs.length = ll.length ∧ ∀ j, j < ll.length → ∃ x, vs[j]? = some x ∧ Pt lo hi i H x (ll.getD j [])
theorem FrV.same {ty lo hi : Nat} {H H' : AH} {v : Value} {ll : List (List Int)} (h : FrV ty lo hi H v ll) (hs : ∀ i, lo ≤ i → i < hi → H'.row i = H.row i) : FrV ty lo hi H' v ll := by
  rcases h with h | ⟨i, vs, h1, h2, hv, hr, hl, hj⟩
  · exact .inl h
  · refine .inr ⟨i, vs, h1, h2, hv, by rw [hs i h1 h2]; exact hr, hl, fun j hjl => ?_⟩
    obtain ⟨x, hx, hp⟩ := hj j hjl
    exact ⟨x, hx, fun H2 h2 => hp H2 fun z r z1 z2 z3 hz => h2 z r z1 z2 z3 (by rw [hs z z1 z2]; exact hz)⟩
theorem FrV.wide {ty lo hi lo' hi' : Nat} {H : AH} {v : Value} {ll : List (List Int)} (h : FrV ty lo hi H v ll) (a : lo' ≤ lo) (c : hi ≤ hi') : FrV ty lo' hi' H v ll := by
  rcases h with h | ⟨i, vs, h1, h2, hv, hr, hl, hj⟩
  · exact .inl h
  · refine .inr ⟨i, vs, by omega, by omega, hv, hr, hl, fun j hjl => ?_⟩
    obtain ⟨x, hx, hp⟩ := hj j hjl
    exact ⟨x, hx, fun H2 h2 => hp H2 fun z r z1 z2 z3 hz => h2 z r (by omega) (by omega) z3 hz⟩
theorem FrV.rd {ty lo hi : Nat} {H : AH} {v : Value} {ll : List (List Int)} (h : FrV ty lo hi H v ll) : Rd2 1 H v ll := by
  rcases h with ⟨h1, h2⟩ | ⟨i, vs, h1, h2, rfl, hr, hl, hj⟩
  · exact .inl ⟨h1, none, 0, h2, fun _ => rfl⟩
  · refine .inr ⟨i, 0, some 1, _, _, rfl, hr, fun j hjl => ?_⟩
    obtain ⟨x, hx, hp⟩ := hj j hjl
    exact ⟨x, _, by simpa using hx, hp H fun _ _ _ _ _ h => h⟩
theorem cells_of_one {v : Value} (h : v.oneCell' = true) : v.cells = #[v] := by
  cases v <;> first | rfl | (simp [Value.oneCell'] at h)
theorem noTuple_of_one {v : Value} (h : v.oneCell' = true) : noTuple v = true := by
  cases v <;> first | rfl | (simp [Value.oneCell'] at h)
end Go.Abs
end

section
set_option maxRecDepth 100000
namespace Go.Proofs.Ytpienljnoaendaa.A
open Go Go.Abs Go.RowKit
theorem between_c (n lo hi : Int) (H : AH) : ACalls Try.prog 36 [.int .i64 n, .int .i64 lo, .int .i64 hi] H (is (.bool (decide (lo ≤ n ∧ n ≤ hi))) H) := by
  refine acalls_of_awp [.tmp 6] Try.func36 (by kernel_rfl) rfl rfl (Nat.le_of_ble_eq_true rfl) (by kernel_rfl) ?_
  by_cases h : lo ≤ n
  · try simp (disch := first | omega | (simp only [ints_length, List.length_replicate] <;> omega)) only [Sall,evalOp,init,binA_s,binE,binI,unE,convE,okNil,builtE,gv,TD.isAgg,resV,↓reduceIte,Nat.reduceEqDiff,reduceCtorEq,Nat.reduceAdd,Nat.reduceMul,Nat.reduceLeDiff,quietOp,blindOp,Int.reduceEq,Int.reduceLT,Int.reduceLE,Nat.reduceLT,tiA, h, decide_true, is]
  · try simp (disch := first | omega | (simp only [ints_length, List.length_replicate] <;> omega)) only [Sall,evalOp,init,binA_s,binE,binI,unE,convE,okNil,builtE,gv,TD.isAgg,resV,↓reduceIte,Nat.reduceEqDiff,reduceCtorEq,Nat.reduceAdd,Nat.reduceMul,Nat.reduceLeDiff,quietOp,blindOp,Int.reduceEq,Int.reduceLT,Int.reduceLE,Nat.reduceLT,tiA, h, decide_false, is, false_and]
theorem l01In_c (n lo hi : Int) (H : AH) : ACalls Try.prog 34 [.int .i64 n, .int .i64 lo, .int .i64 hi] H (is (.bool (decide (lo ≤ n ∧ n ≤ hi))) H) := by
  refine acalls_of_awp [.tmp 6] Try.func34 (by kernel_rfl) rfl rfl (Nat.le_of_ble_eq_true rfl) (by kernel_rfl) ?_
  by_cases h : lo ≤ n
  · try simp (disch := first | omega | (simp only [ints_length, List.length_replicate] <;> omega)) only [Sall,evalOp,init,binA_s,binE,binI,unE,convE,okNil,builtE,gv,TD.isAgg,resV,↓reduceIte,Nat.reduceEqDiff,reduceCtorEq,Nat.reduceAdd,Nat.reduceMul,Nat.reduceLeDiff,quietOp,blindOp,Int.reduceEq,Int.reduceLT,Int.reduceLE,Nat.reduceLT,tiA, h, decide_true, is]
  · try simp (disch := first | omega | (simp only [ints_length, List.length_replicate] <;> omega)) only [Sall,evalOp,init,binA_s,binE,binI,unE,convE,okNil,builtE,gv,TD.isAgg,resV,↓reduceIte,Nat.reduceEqDiff,reduceCtorEq,Nat.reduceAdd,Nat.reduceMul,Nat.reduceLeDiff,quietOp,blindOp,Int.reduceEq,Int.reduceLT,Int.reduceLE,Nat.reduceLT,tiA, h, decide_false, is, false_and]
end Go.Proofs.Ytpienljnoaendaa.A
end

section
set_option maxRecDepth 100000
set_option maxHeartbeats 2000000
namespace Go.Proofs.Ytpienljnoaendaa.A
open Go Go.Abs Go.RowKit
theorem indexI_c (v : Value) (y : List Int) (x : Int) (H : AH) (hv : Rd 1 H v y.length y) (hy : y.length ≤ 4294967296) :
    ACalls Try.prog 26 [v, .int .i64 x] H (is (.int .i64 (firstI (fun i => y.getD i 0 == x) y.length)) H) := by
  refine acalls_up rfl (acalls_of_awp [.tmp 4] Try.func26 (by kernel_rfl) rfl rfl (Nat.le_of_ble_eq_true rfl) (by kernel_rfl) ?_)
  try simp (disch := first | omega | (simp only [L3] <;> omega)) only [Sall,evalOp,init,binA_s,binE,binI,unE,convE,okNil,builtE,gv,TD.isAgg,resV,↓reduceIte,Nat.reduceEqDiff,reduceCtorEq,Nat.reduceAdd,Nat.reduceMul,Nat.reduceLeDiff,quietOp,blindOp,Int.reduceEq,Int.reduceLT,Int.reduceLE,Nat.reduceLT,tiA, builtE, hv.len]
  refine awp_loop (fun m t H' => ∃ a : Nat, m = y.length - a ∧ a ≤ y.length ∧ t 8 = .int .i64 a ∧ t 7 = .int .i64 y.length ∧ t 0 = v ∧ t 1 = .int .i64 x ∧ H' = H ∧ (∀ i, i < a → (y.getD i 0 == x) = false)) y.length ?_ ?_
  · refine ⟨0, by omega, by omega, ?_⟩
    try simp (disch := first | omega | (simp only [L3] <;> omega)) only [Sall,evalOp,init,binA_s,binE,binI,unE,convE,okNil,builtE,gv,TD.isAgg,resV,↓reduceIte,Nat.reduceEqDiff,reduceCtorEq,Nat.reduceAdd,Nat.reduceMul,Nat.reduceLeDiff,quietOp,blindOp,Int.reduceEq,Int.reduceLT,Int.reduceLE,Nat.reduceLT,tiA, Int.natCast_zero, Nat.not_lt_zero, false_implies]
  · rintro m t H' ⟨a, hm, han, h8, h7, h0, h1, rfl, hall⟩
    try simp (disch := first | omega | (simp only [L3] <;> omega)) only [Sall,evalOp,init,binA_s,binE,binI,unE,convE,okNil,builtE,gv,TD.isAgg,resV,↓reduceIte,Nat.reduceEqDiff,reduceCtorEq,Nat.reduceAdd,Nat.reduceMul,Nat.reduceLeDiff,quietOp,blindOp,Int.reduceEq,Int.reduceLT,Int.reduceLE,Nat.reduceLT,tiA, h8, h7]
    refine condC_dec (fun h => ?_) (fun h => ?_)
    · obtain ⟨i, o, u, c, r, rfl, hr, hc, hs, _⟩ := hv.get (by omega)
      have g1 := hs a (by omega)
      by_cases hx : y.getD a 0 = x
      · have e1 : (x == y.getD a 0) = true := by rw [hx]; exact beq_self_eq_true _
        try simp (disch := first | omega | (simp only [L3] <;> omega)) only [Sall,evalOp,init,binA_s,binE,binI,unE,convE,okNil,builtE,gv,TD.isAgg,resV,↓reduceIte,Nat.reduceEqDiff,reduceCtorEq,Nat.reduceAdd,Nat.reduceMul,Nat.reduceLeDiff,quietOp,blindOp,Int.reduceEq,Int.reduceLT,Int.reduceLE,Nat.reduceLT,tiA, h8, h0, h1, hr, g1, e1]
        (repeat refine And.intro (by omega) ?_)
        rw [firstI_at (by omega) (by rw [hx]; exact beq_self_eq_true _) hall]
        exact ⟨rfl, Up.refl _ _⟩
      · have e1 : (x == y.getD a 0) = false := beq_eq_false_iff_ne.2 (Ne.symm hx)
        try simp (disch := first | omega | (simp only [L3] <;> omega)) only [Sall,evalOp,init,binA_s,binE,binI,unE,convE,okNil,builtE,gv,TD.isAgg,resV,↓reduceIte,Nat.reduceEqDiff,reduceCtorEq,Nat.reduceAdd,Nat.reduceMul,Nat.reduceLeDiff,quietOp,blindOp,Int.reduceEq,Int.reduceLT,Int.reduceLE,Nat.reduceLT,tiA, h8, h7, h0, h1, hr, g1, e1, w64]
        (repeat refine And.intro (by omega) ?_)
        refine ⟨y.length - (a + 1), by omega, a + 1, rfl, by omega, rfl, fun i hi => ?_⟩
        by_cases e : i = a
        · rw [e]; exact beq_eq_false_iff_ne.2 hx
        · exact hall i (by omega)
    · try simp (disch := first | omega | (simp only [L3] <;> omega)) only [Sall,evalOp,init,binA_s,binE,binI,unE,convE,okNil,builtE,gv,TD.isAgg,resV,↓reduceIte,Nat.reduceEqDiff,reduceCtorEq,Nat.reduceAdd,Nat.reduceMul,Nat.reduceLeDiff,quietOp,blindOp,Int.reduceEq,Int.reduceLT,Int.reduceLE,Nat.reduceLT,tiA, true_and]
      rw [firstI_none (fun i hi => hall i (by omega))]
      exact ⟨rfl, Up.refl _ _⟩
theorem rd_seg {k n i o c : Nat} {u : Option Nat} {H : AH} {l : List Int} (h : Rd k H (.slice (some ⟨i, o, u⟩) n c) n l) (hn : 0 < n) : ∃ r, H.row i = some r ∧ o + n * k ≤ r.cells.length ∧ seg r.cells o (n * k) = ints l := by
  rcases h.2 with ⟨h0, _⟩ | ⟨i', o', u', c', r, e, hr, h3, h4⟩
  · omega
  · cases e; exact ⟨r, hr, h3, h4⟩
def Cp (H : AH) (v : Value) (y : List Int) : Prop := Rd 1 H v y.length y ∧ (y.length = 0 → v = .slice none 0 0 ∨ ∃ i c r, v = .slice (some ⟨i, 0, some 1⟩) 0 c ∧ H.row i = some r ∧ r.rw = true)
theorem Cp.of_fr {ty lo hi : Nat} {H : AH} {v : Value} {y : List Int} (h : Fr 1 ty lo hi H v y.length y) : Cp H v y := by
  refine ⟨h.rd, fun h0 => ?_⟩
  rcases h.2 with ⟨_, rfl⟩ | ⟨i, h1, h2, rfl, hr⟩
  · exact .inl rfl
  · rw [h0]; exact .inr ⟨i, 0, _, rfl, hr, rfl⟩
theorem l01Own_c (v : Value) (y : List Int) (H : AH) (hv : Cp H v y) (hy : y.length ≤ 4194304) :
    ACalls Try.prog 61 [v] H (fun u H' => Up H.next H H' ∧ Fr 1 2 H.next H'.next H' u y.length y) := by
  refine ACalls.wf (by kernel_rfl) fun hs => acalls_of_awp [.tmp 2] Try.func61 (by kernel_rfl) rfl rfl (Nat.le_of_ble_eq_true rfl) (by kernel_rfl) ?_
  obtain ⟨hrd, hz⟩ := hv
  by_cases h0 : y.length = 0
  · have hy0 : y = [] := List.eq_nil_of_length_eq_zero h0
    subst hy0
    rcases hz h0 with rfl | ⟨i, c, r, rfl, hr, hw⟩
    · try simp (disch := first | omega | (simp only [L3] <;> omega)) only [Sall,evalOp,init,binA_s,binE,binI,unE,convE,okNil,builtE,gv,TD.isAgg,resV,↓reduceIte,Nat.reduceEqDiff,reduceCtorEq,Nat.reduceAdd,Nat.reduceMul,Nat.reduceLeDiff,quietOp,blindOp,Int.reduceEq,Int.reduceLT,Int.reduceLE,Nat.reduceLT,tiA, zeros_zero, slCells, appE]
      refine ⟨(Up.refl _ H).push (Nat.le_refl _) _, ⟨rfl, .inr ⟨H.next, Nat.le_refl _, Nat.lt_succ_self _, rfl, by rw [AH.push_row, if_pos rfl]; rfl⟩⟩⟩
    · have hi := hs _ _ hr
      have ne : ¬ i = H.next := by omega
      have hok : Go.Abs.Row.ok r [] = True := eq_true (.inl hw)
      try simp (disch := first | omega | (simp only [L3] <;> omega)) only [Sall,evalOp,init,binA_s,binE,binI,unE,convE,okNil,builtE,gv,TD.isAgg,resV,↓reduceIte,Nat.reduceEqDiff,reduceCtorEq,Nat.reduceAdd,Nat.reduceMul,Nat.reduceLeDiff,quietOp,blindOp,Int.reduceEq,Int.reduceLT,Int.reduceLE,Nat.reduceLT,tiA, zeros_zero, slCells, hr, ne, hok, appE]
      (repeat refine And.intro (by omega) ?_)
      refine ⟨(Up.refl _ H).push (Nat.le_refl _) _, ⟨rfl, .inr ⟨H.next, Nat.le_refl _, Nat.lt_succ_self _, rfl, by rw [AH.push_row, if_pos rfl]; rfl⟩⟩⟩
  · obtain ⟨i, o, u, c, r, rfl, hr, hc, _, _⟩ := hrd.get (by omega)
    obtain ⟨r', hr', hc', hseg⟩ := rd_seg hrd (by omega)
    rw [hr] at hr'
    cases hr'
    rw [Nat.mul_one] at hseg hc
    have hi := hs _ _ hr
    have ne : ¬ i = H.next := by omega
    try simp (disch := first | omega | (simp only [L3] <;> omega)) only [Sall,evalOp,init,binA_s,binE,binI,unE,convE,okNil,builtE,gv,TD.isAgg,resV,↓reduceIte,Nat.reduceEqDiff,reduceCtorEq,Nat.reduceAdd,Nat.reduceMul,Nat.reduceLeDiff,quietOp,blindOp,Int.reduceEq,Int.reduceLT,Int.reduceLE,Nat.reduceLT,tiA, zeros_zero, slCells, hr, ne, hseg]
    (repeat refine And.intro (by omega) ?_)
    have h3 : Fr 1 2 H.next (H.next + 1) (H.push ⟨2, true, []⟩) (.slice (some ⟨H.next, 0, some 1⟩) 0 0) 0 [] := ⟨rfl, .inr ⟨H.next, Nat.le_refl _, Nat.lt_succ_self _, rfl, by rw [AH.push_row, if_pos rfl]; rfl⟩⟩
    refine appE_fr h3 rfl (by omega) (by omega) (by omega) (by decide) (by omega) (by rw [AH.push_next]; omega) ?_
    intro v' H4 k1 k2 k3
    rw [AH.push_next] at k1 k2 k3
    rw [Nat.zero_add, List.nil_append] at k3
    have k5 := k3.rd.one
    try simp (disch := first | omega | (simp only [L3] <;> omega)) only [Sall,evalOp,init,binA_s,binE,binI,unE,convE,okNil,builtE,gv,TD.isAgg,resV,↓reduceIte,Nat.reduceEqDiff,reduceCtorEq,Nat.reduceAdd,Nat.reduceMul,Nat.reduceLeDiff,quietOp,blindOp,Int.reduceEq,Int.reduceLT,Int.reduceLE,Nat.reduceLT,tiA, true_and]
    exact ⟨⟨by omega, fun i hi => by rw [k2 i (by omega) (by omega), AH.push_row, if_neg (by omega)]⟩, k3.wide (by omega) (by omega)⟩
/-! ### All orders -/
def Per (b0 : Nat) (H : AH) (v : Value) (y : List Int) : Prop := ∀ H', (∀ i, b0 ≤ i → i < H.next → H'.row i = H.row i) → Cp H' v y
theorem Per.nil (b0 : Nat) (H : AH) : Per b0 H (.slice none 0 0) [] := fun H' _ => ⟨⟨rfl, .inl ⟨rfl, none, 0, rfl, fun _ => rfl⟩⟩, fun _ => .inl rfl⟩
theorem Per.fr {b0 ty lo hi : Nat} {H : AH} {v : Value} {y : List Int} (h : Fr 1 ty lo hi H v y.length y) (hb : b0 ≤ lo) (hn : hi ≤ H.next) : Per b0 H v y := by
  intro H' hr
  refine Cp.of_fr (ty := ty) (lo := lo) (hi := hi) ⟨h.1, ?_⟩
  rcases h.2 with h2 | ⟨i, h1, h2, hv, hri⟩
  · exact .inl h2
  · exact .inr ⟨i, h1, h2, hv, by rw [hr i (by omega) (by omega)]; exact hri⟩
end Go.Proofs.Ytpienljnoaendaa.A
end

section
set_option maxRecDepth 100000
set_option maxHeartbeats 2000000
namespace Go.Proofs.Ytpienljnoaendaa.A
open Go Go.Abs Go.RowKit
theorem evo_pnil (t : T) : evo t (.const (.pointer none)) = some (.pointer none) := (rfl)
theorem l01From_c (cv : Value) (nb : Nat) (H : AH) (hnb : nb ≤ 4611686018427387904) (hc : CodeOk H cv nb) :
    ACalls Try.prog 20 [cv] H (fun v H' => v = .pointer (some ⟨H.next, 0, none⟩) ∧ Up H.next H H' ∧ Sc H' ∧ H.next < H'.next ∧ Src cv nb H.next H') := by
  refine ACalls.wf (by kernel_rfl) fun hs => acalls_of_awp [.tmp 2] Try.func20 (by kernel_rfl) rfl rfl (Nat.le_of_ble_eq_true rfl) (by kernel_rfl) ?_
  have hone := hc.one
  have hw1 := cells_of_one hone
  have hw2 := noTuple_of_one hone
  have hln := hc.len
  have hz : [Value.slice none 0 0, .int .i64 0, .int .u64 0] = [Value.slice none 0 0, .int .i64 0, .int .u64 0] := rfl
  try simp (disch := first | omega | (simp only [L3] <;> omega)) only [Sall,evalOp,init,binA_s,binE,binI,unE,convE,okNil,builtE,gv,TD.isAgg,resV,↓reduceIte,Nat.reduceEqDiff,reduceCtorEq,Nat.reduceAdd,Nat.reduceMul,Nat.reduceLeDiff,quietOp,blindOp,Int.reduceEq,Int.reduceLT,Int.reduceLE,Nat.reduceLT,tiA,tiXA, hone, hw1, hw2, hln, builtE, evo_pnil]
  obtain ⟨h0, eh0⟩ : ∃ h0, h0 = IntKind.u64.wrap (13791 + IntKind.u64.wrap (nb : Int)) := ⟨_, rfl⟩
  rw [← eh0]
  have o1 := (Ow.refl hs).push ⟨63, true, [cv, .int .i64 0, .int .u64 h0]⟩
  refine awp_loop (fun z t H' => ∃ (j : Nat) (h : Int), z = nb - j ∧ j ≤ nb ∧ t 4 = .int .i64 j ∧ t 3 = .pointer (some ⟨H.next, 0, none⟩) ∧ t 0 = cv ∧ Ow H H' [.row H.next ⟨63, true, [cv, .int .i64 0, .int .u64 h]⟩]) nb ?_ ?_
  · refine ⟨0, h0, by omega, by omega, ?_⟩
    try simp (disch := first | omega | (simp only [L3] <;> omega)) only [Sall,evalOp,init,binA_s,binE,binI,unE,convE,okNil,builtE,gv,TD.isAgg,resV,↓reduceIte,Nat.reduceEqDiff,reduceCtorEq,Nat.reduceAdd,Nat.reduceMul,Nat.reduceLeDiff,quietOp,blindOp,Int.reduceEq,Int.reduceLT,Int.reduceLE,Nat.reduceLT,tiA,tiXA, Int.natCast_zero]
    exact o1
  · rintro z t H' ⟨j, h, hz, hj, h4, h3, h0', o2⟩
    have g0 := (o2.rowAt 0 rfl).1
    have n0 := (o2.rowAt 0 rfl).2
    by_cases c1 : j < nb
    · have e1 : decide ((j : Int) < (nb : Int)) = true := decide_eq_true (by omega)
      by_cases c2 : j < 4096
      · have e2 : decide ((j : Int) < 4096) = true := decide_eq_true (by omega)
        try simp (disch := first | omega | (simp only [L3] <;> omega)) only [Sall,evalOp,init,binA_s,binE,binI,unE,convE,okNil,builtE,gv,TD.isAgg,resV,↓reduceIte,Nat.reduceEqDiff,reduceCtorEq,Nat.reduceAdd,Nat.reduceMul,Nat.reduceLeDiff,quietOp,blindOp,Int.reduceEq,Int.reduceLT,Int.reduceLE,Nat.reduceLT,tiA,tiXA, h4, h0', builtE, hln, e1, e2]
        have hc' : CodeOk H' cv nb := by
          rcases hc with ⟨q1, q2⟩ | ⟨i, o, u, c, r, q1, q2, q3⟩
          · exact .inl ⟨q1, q2⟩
          · exact .inr ⟨i, o, u, c, r, q1, o2.old hs _ _ q2, q3⟩
        obtain ⟨ci, co, cu, cc, cr, b, rfl, cr1, cr2, cb1, cb2⟩ := hc'.get c1
        try simp (disch := first | omega | (simp only [L3] <;> omega)) only [Sall,evalOp,init,binA_s,binE,binI,unE,convE,okNil,builtE,gv,TD.isAgg,resV,↓reduceIte,Nat.reduceEqDiff,reduceCtorEq,Nat.reduceAdd,Nat.reduceMul,Nat.reduceLeDiff,quietOp,blindOp,Int.reduceEq,Int.reduceLT,Int.reduceLE,Nat.reduceLT,tiA,tiXA, h4, h3]
        refine draw_id (by kernel_rfl) (by kernel_rfl) ?_
        try simp (disch := first | omega | (simp only [L3] <;> omega)) only [Sall,evalOp,init,binA_s,binE,binI,unE,convE,okNil,builtE,gv,TD.isAgg,resV,↓reduceIte,Nat.reduceEqDiff,reduceCtorEq,Nat.reduceAdd,Nat.reduceMul,Nat.reduceLeDiff,quietOp,blindOp,Int.reduceEq,Int.reduceLT,Int.reduceLE,Nat.reduceLT,tiA,tiXA, h4, h3, h0', g0, cr1, cr2, hone]
        (repeat refine And.intro (by omega) ?_)
        exact ⟨.inr (.inl (by kernel_rfl)), nb - (j + 1), by omega, j + 1, _, rfl, by omega, w64 (by omega), o2.putRow 0 rfl⟩
      · have e2 : decide ((j : Int) < 4096) = false := decide_eq_false (by omega)
        try simp (disch := first | omega | (simp only [L3] <;> omega)) only [Sall,evalOp,init,binA_s,binE,binI,unE,convE,okNil,builtE,gv,TD.isAgg,resV,↓reduceIte,Nat.reduceEqDiff,reduceCtorEq,Nat.reduceAdd,Nat.reduceMul,Nat.reduceLeDiff,quietOp,blindOp,Int.reduceEq,Int.reduceLT,Int.reduceLE,Nat.reduceLT,tiA,tiXA, h4, h0', h3, builtE, hln, e1, e2]
        exact ⟨o2.up, o2.sc, by omega, ⟨0, h, g0, Nat.zero_le _⟩⟩
    · have e1 : decide ((j : Int) < (nb : Int)) = false := decide_eq_false (by omega)
      try simp (disch := first | omega | (simp only [L3] <;> omega)) only [Sall,evalOp,init,binA_s,binE,binI,unE,convE,okNil,builtE,gv,TD.isAgg,resV,↓reduceIte,Nat.reduceEqDiff,reduceCtorEq,Nat.reduceAdd,Nat.reduceMul,Nat.reduceLeDiff,quietOp,blindOp,Int.reduceEq,Int.reduceLT,Int.reduceLE,Nat.reduceLT,tiA,tiXA, h4, h0', h3, builtE, hln, e1]
      exact ⟨o2.up, o2.sc, by omega, ⟨0, h, g0, Nat.zero_le _⟩⟩
structure PermL (n : Nat) (l : List Int) : Prop where
  len : l.length = n
  nod : l.Nodup
  rng : ∀ x ∈ l, 0 ≤ x ∧ x < (n : Int)
  all : ∀ x : Nat, x < n → (x : Int) ∈ l
theorem PermL.zero : PermL 0 [] := ⟨rfl, by simp, by simp, fun x hx => by omega⟩
theorem PermL.ins {n : Nat} {l : List Int} (h : PermL n l) (a : Nat) (ha : a ≤ n) : PermL (n + 1) (l.take a ++ [(n : Int)] ++ l.drop a) := by
  have hta := List.take_append_drop a l
  have hp : (l.take a ++ [(n : Int)] ++ l.drop a).Perm ((n : Int) :: l) := by
    rw [List.append_assoc]
    refine (List.perm_middle (l₁ := l.take a) (l₂ := l.drop a) (a := (n : Int))).trans ?_
    rw [hta]
  refine ⟨?_, ?_, fun x hx => ?_, fun x hx => ?_⟩
  · rw [hp.length_eq, List.length_cons, h.len]
  · rw [hp.nodup_iff, List.nodup_cons]
    exact ⟨fun hm => by have := h.rng _ hm; omega, h.nod⟩
  · have := hp.mem_iff.1 hx
    rcases List.mem_cons.1 this with e | e
    · omega
    · have := h.rng _ e; omega
  · rw [hp.mem_iff]
    by_cases e : x = n
    · rw [e]; simp
    · exact List.mem_cons_of_mem _ (h.all x (by omega))
theorem frcut {P : Program} {E : TI} {K : Value → AH → Prop} {H : AH} {i n a b : Nat} {lo hi : Option Int} (hE : E.size = 1) (ha : lo.getD 0 = (a : Int)) (hb : hi.getD (n : Int) = (b : Int)) (hab : a ≤ b) (hbn : b ≤ n) (hK : K (.slice (some ⟨i, a, some 1⟩) (b - a) (b - a)) H) :
    runOut P H (sliceE E (.slice (some ⟨i, 0, some 1⟩) n n) lo hi none H) K := by
  unfold sliceE
  rw [if_neg (by simp)]
  simp only [asSl_some, runOut_need, runOut_val, ha, hb, Int.toNat_natCast, hE, Nat.mul_one, Nat.zero_add]
  exact ⟨⟨by omega, by omega, by omega, trivial⟩, hK⟩
theorem appE_zero {P : Program} {E : TI} {K : Value → AH → Prop} {H : AH} {ty : TypeId} {i o z n c : Nat} {xs : List Value} (hK : K (.slice (some ⟨i, o, some z⟩) n c) H) : runOut P H (appE E ty (.slice (some ⟨i, o, some z⟩) n c) xs 0 H) K := by
  unfold appE
  rw [if_pos rfl]
  simp only [asSl_some, runOut_need, runOut_val]
  exact ⟨(fun h => by cases h), hK⟩
theorem cp_pre {H : AH} {i a n : Nat} {ty : TypeId} {l : List Int} (hr : H.row i = some ⟨ty, true, ints l⟩) (ha : a ≤ l.length) : Cp H (.slice (some ⟨i, 0, some 1⟩) a n) (l.take a) := by
  have hl : (l.take a).length = a := by rw [List.length_take]; omega
  refine ⟨⟨by omega, .inr ⟨i, 0, some 1, n, _, by rw [hl], hr, by rw [hl, ints_length]; omega, ?_⟩⟩, fun h => .inr ⟨i, n, _, by rw [show a = 0 by omega], hr, rfl⟩⟩
  rw [hl, Nat.mul_one]
  simp [seg, ints, List.map_take]
theorem l01DrawOrder_c (cv : Value) (nb si : Nat) (n : Int) (H : AH) (hn : n ≤ 4096) (hnb : nb ≤ 4611686018427387904) (hs : Src cv nb si H) (hc : CodeX cv nb si H) :
    ACalls Try.prog 66 [.pointer (some ⟨si, 0, none⟩), .int .i64 n] H (fun v H' => ∃ (l : List Int) (H1 : AH), SrcB cv nb si H H1 ∧ Ow H1 H' [.sl 1 2 v n.toNat (ints l)] ∧ PermL n.toNat l) := by
  refine ACalls.wf (by kernel_rfl) fun hsc => acalls_of_awp [.tmp 4] Try.func66 (by kernel_rfl) rfl rfl (Nat.le_of_ble_eq_true rfl) (by kernel_rfl) ?_
  obtain ⟨_, _, hrow, _⟩ := id hs
  have hsi := hsc _ _ hrow
  have o1 := (Ow.refl hsc).pushSl (k := 1) (n := 0) (ty := 2) (vs := ints []) rfl
  try simp (disch := first | omega | (simp only [L3] <;> omega)) only [Sall,evalOp,init,binA_s,binE,binI,unE,convE,okNil,builtE,gv,TD.isAgg,resV,↓reduceIte,Nat.reduceEqDiff,reduceCtorEq,Nat.reduceAdd,Nat.reduceMul,Nat.reduceLeDiff,quietOp,blindOp,Int.reduceEq,Int.reduceLT,Int.reduceLE,Nat.reduceLT,tiA,tiXA, zeros_zero]
  refine awp_loop (fun z t H' => ∃ (i ui : Nat) (l : List Int) (B : AH), z = n.toNat - i ∧ i ≤ n.toNat ∧ t 6 = .int .i64 i ∧ t 5 = .slice (some ⟨ui, 0, some 1⟩) i i ∧ t 0 = .pointer (some ⟨si, 0, none⟩) ∧ t 1 = .int .i64 n ∧ SrcB cv nb si H B ∧ Ow B H' [.sl 1 2 (.slice (some ⟨ui, 0, some 1⟩) i i) i (ints l)] ∧ PermL i l) n.toNat ?_ ?_
  · refine ⟨0, H.next, [], H, by omega, by omega, ?_⟩
    try simp (disch := first | omega | (simp only [L3] <;> omega)) only [Sall,evalOp,init,binA_s,binE,binI,unE,convE,okNil,builtE,gv,TD.isAgg,resV,↓reduceIte,Nat.reduceEqDiff,reduceCtorEq,Nat.reduceAdd,Nat.reduceMul,Nat.reduceLeDiff,quietOp,blindOp,Int.reduceEq,Int.reduceLT,Int.reduceLE,Nat.reduceLT,tiA,tiXA, Int.natCast_zero]
    exact ⟨SrcB.refl hs, o1, PermL.zero⟩
  · rintro z t H' ⟨i, ui, l, B, hz, hi, h6, h5, h0, h1, hB, o2, hp⟩
    try simp (disch := first | omega | (simp only [L3] <;> omega)) only [Sall,evalOp,init,binA_s,binE,binI,unE,convE,okNil,builtE,gv,TD.isAgg,resV,↓reduceIte,Nat.reduceEqDiff,reduceCtorEq,Nat.reduceAdd,Nat.reduceMul,Nat.reduceLeDiff,quietOp,blindOp,Int.reduceEq,Int.reduceLT,Int.reduceLE,Nat.reduceLT,tiA,tiXA, h6, h1]
    have hsiB : si < B.next := by rw [hB.next]; exact hsi
    refine condC_dec (fun hh => ?_) (fun hh => ?_)
    · try simp (disch := first | omega | (simp only [L3] <;> omega)) only [Sall,evalOp,init,binA_s,binE,binI,unE,convE,okNil,builtE,gv,TD.isAgg,resV,↓reduceIte,Nat.reduceEqDiff,reduceCtorEq,Nat.reduceAdd,Nat.reduceMul,Nat.reduceLeDiff,quietOp,blindOp,Int.reduceEq,Int.reduceLT,Int.reduceLE,Nat.reduceLT,tiA,tiXA, h6, h0, w64]
      refine (l01Next_c cv nb si ((i : Int) + 1) H' (by omega) hnb (Ow.srcAt o2 hB hsi) (hc.later fun j r hj hr => Ow.oldX o2 hB hsc j r hj hr)).ex ?_
      rintro a H2 ⟨ha, hS⟩
      have hai : a ≤ i := by omega
      obtain ⟨B2, b1, o3⟩ := Ow.src o2 hsiB hS
      have hB2 := hB.trans b1
      have hl := hp.len
      have rU3 := (o3.getV 0 rfl).2.2
      refine Holds.mp ?_
      try simp (disch := first | omega | (simp only [L3] <;> omega)) only [Sall,evalOp,init,binA_s,binE,binI,unE,convE,okNil,builtE,gv,TD.isAgg,resV,↓reduceIte,Nat.reduceEqDiff,reduceCtorEq,Nat.reduceAdd,Nat.reduceMul,Nat.reduceLeDiff,quietOp,blindOp,Int.reduceEq,Int.reduceLT,Int.reduceLE,Nat.reduceLT,tiA,tiXA, h6, h5]
      refine draw_tree (OT.run [0, 1, 2, 4, 7, 8, 9] (.two 3 5 (OT.run [5, 6, 10, 11] .nil) (OT.run [3, 6, 10, 11] .nil))) (by kernel_rfl) (by kernel_rfl) (Nat.le_of_ble_eq_true rfl) ?_
      try simp (disch := first | omega | (simp only [L3] <;> omega)) only [Sall,evalOp,init,binA_s,binE,binI,unE,convE,okNil,builtE,gv,TD.isAgg,resV,↓reduceIte,Nat.reduceEqDiff,reduceCtorEq,Nat.reduceAdd,Nat.reduceMul,Nat.reduceLeDiff,quietOp,blindOp,Int.reduceEq,Int.reduceLT,Int.reduceLE,Nat.reduceLT,tiA,tiXA, awpT_nil, awpT_one, awpT_run_nil, awpT_run_cons, h6, h5]
      refine frcut (a := 0) (b := a) rfl rfl rfl (Nat.zero_le _) hai ?_
      try simp (disch := first | omega | (simp only [L3] <;> omega)) only [Sall,evalOp,init,binA_s,binE,binI,unE,convE,okNil,builtE,gv,TD.isAgg,resV,↓reduceIte,Nat.reduceEqDiff,reduceCtorEq,Nat.reduceAdd,Nat.reduceMul,Nat.reduceLeDiff,quietOp,blindOp,Int.reduceEq,Int.reduceLT,Int.reduceLE,Nat.reduceLT,tiA,tiXA, awpT_nil, awpT_one, awpT_run_nil, awpT_run_cons, h6, h5]
      refine frcut (a := a) (b := i) rfl rfl rfl hai (Nat.le_refl _) ?_
      have hsg : seg (ints l) a (i - a) = ints (l.drop a) := by
        rw [ints_seg, List.take_of_length_le (by rw [List.length_drop]; omega)]
      have hm6 : PermL (i + 1) (l.take a ++ [(i : Int)] ++ l.drop a) := hp.ins a hai
      have fin7 : ∀ (A : AH) (H7 : AH) (x y : Th), Ow A H7 [x, y] → Ow A H7 [y] := fun A H7 x y o => o.sub (fun _ => 1) (fun j hj => by
          obtain rfl : j = 0 := by simp at hj; omega
          rfl) (fun x y hx hy _ => by simp at hx hy; omega)
      have hla : (l.take a).length = a := by rw [List.length_take]; omega
      have zz : zeros 1 [.int .i64 0] = [.int .i64 0] := rfl
      try simp (disch := first | omega | (simp only [L3] <;> omega)) only [Sall,evalOp,init,binA_s,binE,binI,unE,convE,okNil,builtE,gv,TD.isAgg,resV,↓reduceIte,Nat.reduceEqDiff,reduceCtorEq,Nat.reduceAdd,Nat.reduceMul,Nat.reduceLeDiff,quietOp,blindOp,Int.reduceEq,Int.reduceLT,Int.reduceLE,Nat.reduceLT,tiA,tiXA, awpT_nil, awpT_one, awpT_run_nil, awpT_run_cons, h6, h5, Nat.sub_zero]
      refine awpT_two ?_ ?_
      · try simp (disch := first | omega | (simp only [L3] <;> omega)) only [Sall,evalOp,init,binA_s,binE,binI,unE,convE,okNil,builtE,gv,TD.isAgg,resV,↓reduceIte,Nat.reduceEqDiff,reduceCtorEq,Nat.reduceAdd,Nat.reduceMul,Nat.reduceLeDiff,quietOp,blindOp,Int.reduceEq,Int.reduceLT,Int.reduceLE,Nat.reduceLT,tiA,tiXA, awpT_nil, awpT_one, awpT_run_nil, awpT_run_cons, h6, h5]
        refine (l01Own_c _ (l.take a) H2 (cp_pre rU3 (by omega)) (by omega)).sc.mono ?_
        rintro w H4 ⟨⟨up4, hf4⟩, sc4⟩
        have o4 := o3.call (Ow.of_fr up4 sc4 hf4)
        rw [hla] at o4
        have rU4 := (o4.getV 0 rfl).2
        refine ⟨.inr (.inr (up4.le o3.sc)), ?_⟩
        have ne4 : ¬ ui = H4.next := by omega
        try simp (disch := first | omega | (simp only [L3] <;> omega)) only [Sall,evalOp,init,binA_s,binE,binI,unE,convE,okNil,builtE,gv,TD.isAgg,resV,↓reduceIte,Nat.reduceEqDiff,reduceCtorEq,Nat.reduceAdd,Nat.reduceMul,Nat.reduceLeDiff,quietOp,blindOp,Int.reduceEq,Int.reduceLT,Int.reduceLE,Nat.reduceLT,tiA,tiXA, awpT_nil, awpT_one, awpT_run_nil, awpT_run_cons, h6, h5, zz, slCells]
        (repeat refine And.intro (by omega) ?_)
        refine ⟨.inr (.inr (o4.sc.le _)), ?_⟩
        try simp (disch := first | omega | (simp only [L3] <;> omega)) only [Sall,evalOp,init,binA_s,binE,binI,unE,convE,okNil,builtE,gv,TD.isAgg,resV,↓reduceIte,Nat.reduceEqDiff,reduceCtorEq,Nat.reduceAdd,Nat.reduceMul,Nat.reduceLeDiff,quietOp,blindOp,Int.reduceEq,Int.reduceLT,Int.reduceLE,Nat.reduceLT,tiA,tiXA, awpT_nil, awpT_one, awpT_run_nil, awpT_run_cons, h6, h5, zz, slCells]
        (repeat refine And.intro (by omega) ?_)
        refine (o4.tmp ⟨2, true, [.int .i64 i]⟩).app 1 (ms := ints [(i : Int)]) rfl rfl (by omega) rfl (by omega) (by decide) (by omega) ?_
        intro v6 H6 n6 o6
        rw [ints_append] at o6
        refine ⟨.inr (.inl (by kernel_rfl)), ?_⟩
        try simp (disch := first | omega | (simp only [L3] <;> omega)) only [Sall,evalOp,init,binA_s,binE,binI,unE,convE,okNil,builtE,gv,TD.isAgg,resV,↓reduceIte,Nat.reduceEqDiff,reduceCtorEq,Nat.reduceAdd,Nat.reduceMul,Nat.reduceLeDiff,quietOp,blindOp,Int.reduceEq,Int.reduceLT,Int.reduceLE,Nat.reduceLT,tiA,tiXA, awpT_nil, awpT_one, awpT_run_nil, awpT_run_cons, h6, h5]
        have rU := (o6.getV 0 rfl).2.2
        try simp (disch := first | omega | (simp only [L3] <;> omega)) only [Sall,evalOp,init,binA_s,binE,binI,unE,convE,okNil,builtE,gv,TD.isAgg,resV,↓reduceIte,Nat.reduceEqDiff,reduceCtorEq,Nat.reduceAdd,Nat.reduceMul,Nat.reduceLeDiff,quietOp,blindOp,Int.reduceEq,Int.reduceLT,Int.reduceLE,Nat.reduceLT,tiA,tiXA, awpT_nil, awpT_one, awpT_run_nil, awpT_run_cons, h6, h5, slCells, rU, hsg, hl, ints_length]
        (repeat refine And.intro (by omega) ?_)
        by_cases hd : a < i
        · refine o6.app 1 (vs := ints (l.take a ++ [(i : Int)])) (n := a + 1) (c := i - a) (ms := ints (l.drop a)) rfl rfl (by omega) (by rw [ints_length, List.length_drop]; omega) (by omega) (by decide) (by omega) ?_
          intro v7 H7 n7 o7
          rw [show a + 1 + (i - a) = i + 1 by omega, ints_append] at o7
          have o8 : Ow B2 H7 [.sl 1 2 (.slice (some ⟨ui, 0, some 1⟩) i i) i (ints l), .sl 1 2 v7 (i + 1) (ints (l.take a ++ [(i : Int)] ++ l.drop a))] := o7
          obtain ⟨u7, q1, q2, rfl, q4⟩ := o8.get 1 rfl (by omega)
          try simp (disch := first | omega | (simp only [L3] <;> omega)) only [Sall,evalOp,init,binA_s,binE,binI,unE,convE,okNil,builtE,gv,TD.isAgg,resV,↓reduceIte,Nat.reduceEqDiff,reduceCtorEq,Nat.reduceAdd,Nat.reduceMul,Nat.reduceLeDiff,quietOp,blindOp,Int.reduceEq,Int.reduceLT,Int.reduceLE,Nat.reduceLT,tiA,tiXA, awpT_nil, awpT_one, awpT_run_nil, awpT_run_cons, h6, h5, h0, h1, w64]
          exact ⟨.inr (.inl (by kernel_rfl)), n.toNat - (i + 1), by omega, i + 1, u7, _, B2, rfl, by omega, by omega, rfl, hB2, fin7 _ _ _ _ o8, hm6⟩
        · have hai2 : a = i := by omega
          subst hai2
          have o8 : Ow B2 H6 [.sl 1 2 (.slice (some ⟨ui, 0, some 1⟩) a a) a (ints l), .sl 1 2 v6 (a + 1) (ints (l.take a ++ [(a : Int)]))] := o6
          obtain ⟨u7, q1, q2, rfl, q4⟩ := o8.get 1 rfl (by omega)
          rw [Nat.sub_self]
          refine appE_zero ?_
          have hd0 : l.drop a = [] := List.drop_eq_nil_of_le (by omega)
          rw [hd0, List.append_nil] at hm6
          try simp (disch := first | omega | (simp only [L3] <;> omega)) only [Sall,evalOp,init,binA_s,binE,binI,unE,convE,okNil,builtE,gv,TD.isAgg,resV,↓reduceIte,Nat.reduceEqDiff,reduceCtorEq,Nat.reduceAdd,Nat.reduceMul,Nat.reduceLeDiff,quietOp,blindOp,Int.reduceEq,Int.reduceLT,Int.reduceLE,Nat.reduceLT,tiA,tiXA, awpT_nil, awpT_one, awpT_run_nil, awpT_run_cons, h6, h5, h0, h1, w64]
          exact ⟨.inr (.inl (by kernel_rfl)), n.toNat - (a + 1), by omega, a + 1, u7, _, B2, rfl, by omega, by omega, rfl, hB2, fin7 _ _ _ _ o8, hm6⟩
      · try simp (disch := first | omega | (simp only [L3] <;> omega)) only [Sall,evalOp,init,binA_s,binE,binI,unE,convE,okNil,builtE,gv,TD.isAgg,resV,↓reduceIte,Nat.reduceEqDiff,reduceCtorEq,Nat.reduceAdd,Nat.reduceMul,Nat.reduceLeDiff,quietOp,blindOp,Int.reduceEq,Int.reduceLT,Int.reduceLE,Nat.reduceLT,tiA,tiXA, awpT_nil, awpT_one, awpT_run_nil, awpT_run_cons, h6, h5, zz, slCells]
        (repeat refine And.intro (by omega) ?_)
        refine ⟨.inr (.inr (o3.sc.le _)), ?_⟩
        have o3t := o3.tmp ⟨2, true, [.int .i64 i]⟩
        have rT : (H2.push ⟨2, true, [.int .i64 i]⟩).row H2.next = some ⟨2, true, [.int .i64 i]⟩ := by rw [AH.push_row, if_pos rfl]
        have nT : (H2.push ⟨2, true, [.int .i64 i]⟩).next = H2.next + 1 := rfl
        revert o3t rT nT
        generalize H2.push ⟨2, true, [.int .i64 i]⟩ = H3
        intro o3t rT nT
        try simp (disch := first | omega | (simp only [L3] <;> omega)) only [Sall,evalOp,init,binA_s,binE,binI,unE,convE,okNil,builtE,gv,TD.isAgg,resV,↓reduceIte,Nat.reduceEqDiff,reduceCtorEq,Nat.reduceAdd,Nat.reduceMul,Nat.reduceLeDiff,quietOp,blindOp,Int.reduceEq,Int.reduceLT,Int.reduceLE,Nat.reduceLT,tiA,tiXA, awpT_nil, awpT_one, awpT_run_nil, awpT_run_cons, h6, h5]
        have rU3' := (o3t.getV 0 rfl).2.2
        refine (l01Own_c _ (l.take a) H3 (cp_pre rU3' (by omega)) (by omega)).sc.mono ?_
        rintro w H4 ⟨⟨up4, hf4⟩, sc4⟩
        have o4 := o3t.call (Ow.of_fr up4 sc4 hf4)
        rw [hla] at o4
        have rT4 : H4.row H2.next = some ⟨2, true, [.int .i64 i]⟩ := by rw [up4.row _ (by omega)]; exact rT
        refine ⟨.inr (.inr (up4.le o3t.sc)), ?_⟩
        try simp (disch := first | omega | (simp only [L3] <;> omega)) only [Sall,evalOp,init,binA_s,binE,binI,unE,convE,okNil,builtE,gv,TD.isAgg,resV,↓reduceIte,Nat.reduceEqDiff,reduceCtorEq,Nat.reduceAdd,Nat.reduceMul,Nat.reduceLeDiff,quietOp,blindOp,Int.reduceEq,Int.reduceLT,Int.reduceLE,Nat.reduceLT,tiA,tiXA, awpT_nil, awpT_one, awpT_run_nil, awpT_run_cons, h6, h5, zz, slCells, rT4]
        (repeat refine And.intro (by omega) ?_)
        refine o4.app 1 (ms := ints [(i : Int)]) rfl rfl (by omega) rfl (by omega) (by decide) (by omega) ?_
        intro v6 H6 n6 o6
        rw [ints_append] at o6
        refine ⟨.inr (.inl (by kernel_rfl)), ?_⟩
        try simp (disch := first | omega | (simp only [L3] <;> omega)) only [Sall,evalOp,init,binA_s,binE,binI,unE,convE,okNil,builtE,gv,TD.isAgg,resV,↓reduceIte,Nat.reduceEqDiff,reduceCtorEq,Nat.reduceAdd,Nat.reduceMul,Nat.reduceLeDiff,quietOp,blindOp,Int.reduceEq,Int.reduceLT,Int.reduceLE,Nat.reduceLT,tiA,tiXA, awpT_nil, awpT_one, awpT_run_nil, awpT_run_cons, h6, h5]
        have rU := (o6.getV 0 rfl).2.2
        try simp (disch := first | omega | (simp only [L3] <;> omega)) only [Sall,evalOp,init,binA_s,binE,binI,unE,convE,okNil,builtE,gv,TD.isAgg,resV,↓reduceIte,Nat.reduceEqDiff,reduceCtorEq,Nat.reduceAdd,Nat.reduceMul,Nat.reduceLeDiff,quietOp,blindOp,Int.reduceEq,Int.reduceLT,Int.reduceLE,Nat.reduceLT,tiA,tiXA, awpT_nil, awpT_one, awpT_run_nil, awpT_run_cons, h6, h5, slCells, rU, hsg, hl, ints_length]
        (repeat refine And.intro (by omega) ?_)
        by_cases hd : a < i
        · refine o6.app 1 (vs := ints (l.take a ++ [(i : Int)])) (n := a + 1) (c := i - a) (ms := ints (l.drop a)) rfl rfl (by omega) (by rw [ints_length, List.length_drop]; omega) (by omega) (by decide) (by omega) ?_
          intro v7 H7 n7 o7
          rw [show a + 1 + (i - a) = i + 1 by omega, ints_append] at o7
          have o8 : Ow B2 H7 [.sl 1 2 (.slice (some ⟨ui, 0, some 1⟩) i i) i (ints l), .sl 1 2 v7 (i + 1) (ints (l.take a ++ [(i : Int)] ++ l.drop a))] := o7
          obtain ⟨u7, q1, q2, rfl, q4⟩ := o8.get 1 rfl (by omega)
          try simp (disch := first | omega | (simp only [L3] <;> omega)) only [Sall,evalOp,init,binA_s,binE,binI,unE,convE,okNil,builtE,gv,TD.isAgg,resV,↓reduceIte,Nat.reduceEqDiff,reduceCtorEq,Nat.reduceAdd,Nat.reduceMul,Nat.reduceLeDiff,quietOp,blindOp,Int.reduceEq,Int.reduceLT,Int.reduceLE,Nat.reduceLT,tiA,tiXA, awpT_nil, awpT_one, awpT_run_nil, awpT_run_cons, h6, h5, h0, h1, w64]
          exact ⟨.inr (.inl (by kernel_rfl)), n.toNat - (i + 1), by omega, i + 1, u7, _, B2, rfl, by omega, by omega, rfl, hB2, fin7 _ _ _ _ o8, hm6⟩
        · have hai2 : a = i := by omega
          subst hai2
          have o8 : Ow B2 H6 [.sl 1 2 (.slice (some ⟨ui, 0, some 1⟩) a a) a (ints l), .sl 1 2 v6 (a + 1) (ints (l.take a ++ [(a : Int)]))] := o6
          obtain ⟨u7, q1, q2, rfl, q4⟩ := o8.get 1 rfl (by omega)
          rw [Nat.sub_self]
          refine appE_zero ?_
          have hd0 : l.drop a = [] := List.drop_eq_nil_of_le (by omega)
          rw [hd0, List.append_nil] at hm6
          try simp (disch := first | omega | (simp only [L3] <;> omega)) only [Sall,evalOp,init,binA_s,binE,binI,unE,convE,okNil,builtE,gv,TD.isAgg,resV,↓reduceIte,Nat.reduceEqDiff,reduceCtorEq,Nat.reduceAdd,Nat.reduceMul,Nat.reduceLeDiff,quietOp,blindOp,Int.reduceEq,Int.reduceLT,Int.reduceLE,Nat.reduceLT,tiA,tiXA, awpT_nil, awpT_one, awpT_run_nil, awpT_run_cons, h6, h5, h0, h1, w64]
          exact ⟨.inr (.inl (by kernel_rfl)), n.toNat - (a + 1), by omega, a + 1, u7, _, B2, rfl, by omega, by omega, rfl, hB2, fin7 _ _ _ _ o8, hm6⟩
    · have hie : i = n.toNat := by omega
      subst hie
      try simp (disch := first | omega | (simp only [L3] <;> omega)) only [Sall,evalOp,init,binA_s,binE,binI,unE,convE,okNil,builtE,gv,TD.isAgg,resV,↓reduceIte,Nat.reduceEqDiff,reduceCtorEq,Nat.reduceAdd,Nat.reduceMul,Nat.reduceLeDiff,quietOp,blindOp,Int.reduceEq,Int.reduceLT,Int.reduceLE,Nat.reduceLT,tiA,tiXA, h5]
      exact ⟨l, B, hB, o2, hp⟩
end Go.Proofs.Ytpienljnoaendaa.A
end

section
namespace Go.Abs
def pairsL (r : List Int) (k : Nat) : List (List Int) := ((List.range k).filter fun (a : Nat) => decide ((a : Int) < r.getD a 0)).map fun (a : Nat) => [(a : Int), r.getD a 0]
end Go.Abs
end

section
namespace Go.Abs
def wonI (v : Int) : Int := if v = 1 then 2 else if v = 2 then 0 else 1
abbrev Ev := Nat × Int × Int × Int
def evPair (i : Nat) (p : List Int) (o : Int) : List Ev := [(i, p.getD 0 0, p.getD 1 0, o), (i, p.getD 1 0, p.getD 0 0, 2 - o)]
def evRound (n i : Nat) (r x : List Int) (k : Nat) : List Ev := (List.range k).flatMap fun j => evPair i ((pairsL r n).getD j []) (wonI (x.getD j 0))
def meets (n : Nat) (l : List Int) (ll : List (List Int)) (m : Nat) : List Ev := (List.range m).flatMap fun i => evRound n i (rnd l i) (ll.getD i []) (pairsL (rnd l i) n).length
end Go.Abs
end

section
namespace Go.Abs
def zeroM (n : Nat) : List (List Int) := List.replicate n (List.replicate n 0)
def incR (row : List Int) (b : Int) : List Int := row.set b.toNat (IntKind.i64.wrap (row.getD b.toNat 0 + 1))
theorem incR_length (row : List Int) (b : Int) : (incR row b).length = row.length := by simp [incR]
def incM (M : List (List Int)) (a b : Int) : List (List Int) := M.set a.toNat (incR (M.getD a.toNat []) b)
def SqM (n : Nat) (M : List (List Int)) : Prop := M.length = n ∧ ∀ j, j < n → (M.getD j []).length = n
theorem zeroM_sq (n : Nat) : SqM n (zeroM n) := ⟨by simp [zeroM], fun j hj => by simp [zeroM, List.getD_eq_getElem?_getD, List.getElem?_replicate, hj]⟩
theorem SqM.inc {n : Nat} {M : List (List Int)} (h : SqM n M) {a b : Int} (ha : a.toNat < n) : SqM n (incM M a b) := by
  refine ⟨by simp [incM, h.1], fun j hj => ?_⟩
  unfold incM
  by_cases e : j = a.toNat
  · subst e
    rw [List.getD_eq_getElem?_getD, List.getElem?_set_self (by rw [h.1]; exact ha)]
    show (incR _ b).length = n
    rw [incR_length, h.2 _ ha]
  · rw [List.getD_eq_getElem?_getD, List.getElem?_set_ne (by omega), ← List.getD_eq_getElem?_getD, h.2 _ hj]
theorem SqM.mem {n : Nat} {M : List (List Int)} (h : SqM n M) : ∀ y ∈ M, y.length = n := by
  intro y hy
  obtain ⟨j, hj, rfl⟩ := List.mem_iff_getElem.1 hy
  have := h.2 j (by rw [← h.1]; exact hj)
  rw [List.getD_eq_getElem?_getD, List.getElem?_eq_getElem hj] at this
  exact this
theorem SqM.tot {n : Nat} {M : List (List Int)} (h : SqM n M) : Abs.tot M = n * n := by
  have h1 := h.1
  have h2 := h.mem
  clear h
  have : ∀ (M : List (List Int)), (∀ y ∈ M, y.length = n) → Abs.tot M = M.length * n := by
    intro M
    induction M with
    | nil => intro _; simp [Abs.tot]
    | cons x M ih =>
      intro h
      have e : Abs.tot (x :: M) = x.length + Abs.tot M := by simp [Abs.tot]
      rw [e, ih fun y hy => h y (List.mem_cons_of_mem _ hy), h x List.mem_cons_self, List.length_cons, Nat.succ_mul, Nat.add_comm]
  rw [this M h2, h1]
/-! How often teams meet. -/
/-! The carry over matrix. -/
/-! Cost and balance. -/
end Go.Abs
end

section
set_option maxRecDepth 100000
set_option maxHeartbeats 2000000
namespace Go.Proofs.Ytpienljnoaendaa.A
open Go Go.Abs Go.RowKit
theorem zeros_int0 (n : Nat) : zeros n [.int .i64 0] = ints (List.replicate n 0) := by
  have h := zeros_ints n 1
  rw [Nat.mul_one] at h; exact h
theorem replicate_snoc {α : Type} (n : Nat) (a : α) : List.replicate (n + 1) a = List.replicate n a ++ [a] := by
  rw [List.replicate_succ']
theorem square_c (n : Nat) (hn : n ≤ 1024) (H : AH) : ACalls Try.prog 48 [.int .i64 n] H (fun v H' => Up H.next H H' ∧ Fr2 1 29 2 H.next H'.next H' v (zeroM n)) := by
  refine acalls_of_awp [.tmp 2] Try.func48 (by kernel_rfl) rfl rfl (Nat.le_of_ble_eq_true rfl) (by kernel_rfl) ?_
  try simp (disch := first | omega | (simp only [L3] <;> omega)) only [Sall,evalOp,init,binA_s,binE,binI,unE,convE,okNil,builtE,gv,TD.isAgg,resV,↓reduceIte,Nat.reduceEqDiff,reduceCtorEq,Nat.reduceAdd,Nat.reduceMul,Nat.reduceLeDiff,quietOp,blindOp,Int.reduceEq,Int.reduceLT,Int.reduceLE,Nat.reduceLT,tiA, zeros_zero]
  refine awp_loop (fun m t H' => ∃ (a : Nat) (u : Value) (lo hi : Nat), m = n - a ∧ a ≤ n ∧ t 6 = .int .i64 a ∧ t 5 = .int .i64 n ∧ t 0 = .int .i64 n ∧ t 3 = u ∧ Up H.next H H' ∧ H.next ≤ lo ∧ lo ≤ hi ∧ hi ≤ H'.next ∧ Fr2 1 29 2 lo hi H' u (List.replicate a (List.replicate n 0))) n ?_ ?_
  · refine ⟨0, .slice (some ⟨H.next, 0, some 1⟩) 0 0, H.next, H.next + 1, by omega, by omega, ?_⟩
    try simp (disch := first | omega | (simp only [L3] <;> omega)) only [Sall,evalOp,init,binA_s,binE,binI,unE,convE,okNil,builtE,gv,TD.isAgg,resV,↓reduceIte,Nat.reduceEqDiff,reduceCtorEq,Nat.reduceAdd,Nat.reduceMul,Nat.reduceLeDiff,quietOp,blindOp,Int.reduceEq,Int.reduceLT,Int.reduceLE,Nat.reduceLT,tiA, Int.natCast_zero]
    refine ⟨(Up.refl _ H).push (by omega) _, ?_⟩
    (repeat refine And.intro (by omega) ?_)
    exact .inr ⟨H.next, [], fun _ => H.next + 1, by omega, by omega, rfl, by rw [AH.push_row, if_pos rfl], rfl, by dsimp only; omega, by dsimp only; omega, .inl (by dsimp only; omega), fun _ => Nat.le_refl _, fun j hj => by simp at hj⟩
  · rintro m t H' ⟨a, u, lo, hi, hm, h14, h6, h5, h0, h3, hup, hlo, hlh, hhi, hfr⟩
    try simp (disch := first | omega | (simp only [L3] <;> omega)) only [Sall,evalOp,init,binA_s,binE,binI,unE,convE,okNil,builtE,gv,TD.isAgg,resV,↓reduceIte,Nat.reduceEqDiff,reduceCtorEq,Nat.reduceAdd,Nat.reduceMul,Nat.reduceLeDiff,quietOp,blindOp,Int.reduceEq,Int.reduceLT,Int.reduceLE,Nat.reduceLT,tiA, h6, h5]
    refine condC_dec (fun h => ?_) (fun h => ?_)
    · have zz : zeros 1 [.slice none 0 0] = [.slice none 0 0] := rfl
      have ne1 : ¬ H'.next = H'.next + 1 := by omega
      try simp (disch := first | omega | (simp only [L3] <;> omega)) only [Sall,evalOp,init,binA_s,binE,binI,unE,convE,okNil,builtE,gv,TD.isAgg,resV,↓reduceIte,Nat.reduceEqDiff,reduceCtorEq,Nat.reduceAdd,Nat.reduceMul,Nat.reduceLeDiff,quietOp,blindOp,Int.reduceEq,Int.reduceLT,Int.reduceLE,Nat.reduceLT,tiA, h6, h5, h3, h0, zeros_int0, zz, slCells]
      (repeat refine And.intro (by omega) ?_)
      obtain ⟨H2, e2⟩ : ∃ H2, H2 = (H'.push ⟨2, true, ints (List.replicate n 0)⟩).push ⟨29, true, [.slice (some ⟨H'.next, 0, some 1⟩) n n]⟩ := ⟨_, rfl⟩
      have n2 : H2.next = H'.next + 2 := by rw [e2]; rfl
      have s2 : ∀ i, i < H'.next → H2.row i = H'.row i := fun i hi => by rw [e2, AH.push_row, if_neg (by rw [AH.push_next]; omega), AH.push_row, if_neg (by omega)]
      have x2 : H2.row H'.next = some ⟨2, true, ints (List.replicate n 0)⟩ := by rw [e2, AH.push_row, if_neg (by rw [AH.push_next]; omega), AH.push_row, if_pos rfl]
      rw [← e2]
      clear e2
      refine appE_fr2 (hfr.same fun i _ hi => s2 i (by omega)) (m := n) (l := List.replicate n 0) ⟨by simp, .inr ⟨H'.next, by omega, by omega, rfl, x2⟩⟩ rfl (by decide) (by rw [List.length_replicate]; omega) hlh (by omega) ?_
      intro v' H3 n3 s3 f3
      try simp (disch := first | omega | (simp only [L3] <;> omega)) only [Sall,evalOp,init,binA_s,binE,binI,unE,convE,okNil,builtE,gv,TD.isAgg,resV,↓reduceIte,Nat.reduceEqDiff,reduceCtorEq,Nat.reduceAdd,Nat.reduceMul,Nat.reduceLeDiff,quietOp,blindOp,Int.reduceEq,Int.reduceLT,Int.reduceLE,Nat.reduceLT,tiA, h6, h5, h0, w64]
      refine ⟨n - (a + 1), by omega, a + 1, v', lo, H2.next + 1, rfl, by omega, rfl, rfl, ⟨by have := hup.next; omega, fun i hi => ?_⟩, by omega, by omega, by omega, ?_⟩
      · rw [s3 i (by have := hup.next; omega) (by have := hup.next; omega), s2 i (by have := hup.next; omega), hup.row i hi]
      · rw [replicate_snoc]; exact f3
    · have ha : a = n := by omega
      subst ha
      try simp (disch := first | omega | (simp only [L3] <;> omega)) only [Sall,evalOp,init,binA_s,binE,binI,unE,convE,okNil,builtE,gv,TD.isAgg,resV,↓reduceIte,Nat.reduceEqDiff,reduceCtorEq,Nat.reduceAdd,Nat.reduceMul,Nat.reduceLeDiff,quietOp,blindOp,Int.reduceEq,Int.reduceLT,Int.reduceLE,Nat.reduceLT,tiA, h3]
      exact ⟨hup, hfr.wide hlo hhi⟩
end Go.Proofs.Ytpienljnoaendaa.A
end

section
namespace Go.Proofs.Ytpienljnoaendaa.A
open Go Go.RowKit Go.Shelf
attribute [local go_sem] Oper.semAt_some
def upto (f : Nat → Int) (k : Nat) : List Int := (List.range k).map f
theorem upto_succ (f : Nat → Int) (k : Nat) : upto f (k + 1) = upto f k ++ [f k] := by simp [upto, List.range_succ]
theorem upto_length (f : Nat → Int) (k : Nat) : (upto f k).length = k := by simp [upto]
theorem upto_all (zs : List Int) : upto (fun j => zs[j]?.getD 0) zs.length = zs := by
  apply List.ext_getElem
  · simp [upto]
  · intro i h1 h2
    simp [upto, h2]
theorem upto_take (zs : List Int) {k : Nat} (hk : k ≤ zs.length) : upto (fun j => zs[j]?.getD 0) k = zs.take k := by
  apply List.ext_getElem
  · simp [upto, hk]
  · intro i h1 h2
    have : i < zs.length := by simp [upto] at h1; omega
    simp [upto, this]
set_option maxRecDepth 100000 in
set_option maxHeartbeats 2000000 in
theorem values1_in (F : Fence) (n : Nat) (h7 : F.fn 46) (hro : F.round = none) (hn : 1 ≤ n) (l Bs n₀ b off len cap : Nat) (zs : List Int) (hreach : len * 8 ≤ 140737488351232) (hb : b < n₀) (J Jx : List Int → World → Prop)
    (hY : ∀ pre x W, J pre W → pre.length < len → YieldAt F (n - 1) Try.prog l #[.int .i64 x] W fun e W' =>
      (e = .returned (.bool true) ∧ J (pre ++ [x]) W' ∧ Below n₀ W W') ∨ (e = .returned (.bool false) ∧ Jx (pre ++ [x]) W'))
    (W : World) (hBs : W.cell? ⟨Bs, 0, none⟩ = some (.slice (some ⟨b, off, none⟩) len cap)) (hc : ∀ j, j < len → W.cell? ⟨b, off + j, none⟩ = some (.int .i64 (zs[j]?.getD 0))) (h0 : J [] W) :
    CallsIn F n Try.prog 46 #[.func (.yield l) #[] #[], .pointer (some ⟨Bs, 0, none⟩)] W fun e W' => (∃ v, e = .returned v) ∧
      ((∃ ys, ys = upto (fun j => zs[j]?.getD 0) len ∧ J ys W') ∨ (∃ pre, (∃ k, k ≤ len ∧ pre = upto (fun j => zs[j]?.getD 0) k) ∧ Jx pre W')) := by
  refine callsIn_of_wp Try.func46 rfl h7 ?_ hro
  simp only [Try.ntmps46, List.size_toArray, List.length_cons, List.length_nil, Nat.reduceAdd, Nat.reduceSub, Array.replicate_succ, Array.replicate_zero, List.push_toArray, List.append_toArray, List.nil_append, List.cons_append]
  gi_wp2
  gi_loopw [7] (fun i wr => ∃ k : Nat, k ≤ len ∧ i = .int .i64 k ∧ J (upto (fun j => zs[j]?.getD 0) k) wr ∧ Below n₀ W wr)
    (fun i _ => len - (intOf i).toNat)
  case atStart => exact ⟨0, Nat.zero_le _, rfl, h0, Below.refl _ _⟩
  case round =>
    obtain ⟨k, hk, rfl, hJs, hnx⟩ := hrel
    have hcx : k < len → wr.cell? ⟨b, off + k, none⟩ = some (.int .i64 (zs[k]?.getD 0)) := fun h => (hnx.cell (p := ⟨b, off + k, none⟩) hb).trans (hc k h)
    by_cases hlt : k < len
    · obtain ⟨fn, tmps, assign, body, hy, hR⟩ := hY _ (zs[k]?.getD 0) wr hJs (by rw [upto_length]; exact hlt)
      have hcx' := hcx hlt
      gi_wp2
      refine hR.mono ?_
      rintro e W3 (⟨rfl, hJ3, hk3⟩ | ⟨rfl, hJx3⟩)
      · gi_wp2
        go_roundw
        case rel => exact ⟨k + 1, by omega, by simp, by rw [upto_succ]; exact hJ3, hnx.trans hk3⟩
        case measure => simp [intOf]; omega
      · gi_wp2
        refine bodyPost_ret (results_none rfl _ _ _) rfl ?_
        exact ⟨⟨_, rfl⟩, .inr ⟨_, ⟨k + 1, by omega, (upto_succ _ _).symm⟩, hJx3⟩⟩
    · obtain rfl : k = len := by omega
      gi_wp2
      go_end0
      exact ⟨⟨_, rfl⟩, .inl ⟨_, rfl, hJs⟩⟩
theorem values1_none_in (F : Fence) (n : Nat) (h7 : F.fn 46) (hro : F.round = none) (l Bs : Nat) (a : Option Addr) (cap : Nat) (J : List Int → World → Prop) (W : World) (hBs : W.cell? ⟨Bs, 0, none⟩ = some (.slice a 0 cap)) (h0 : J [] W) :
    CallsIn F n Try.prog 46 #[.func (.yield l) #[] #[], .pointer (some ⟨Bs, 0, none⟩)] W fun e W' => (∃ v, e = .returned v) ∧ J [] W' := by
  refine callsIn_of_wp Try.func46 rfl h7 ?_ hro
  simp only [Try.ntmps46, List.size_toArray, List.length_cons, List.length_nil, Nat.reduceAdd, Nat.reduceSub, Array.replicate_succ, Array.replicate_zero, List.push_toArray, List.append_toArray, List.nil_append, List.cons_append]
  gi_wp2
  gi_loopw [7] (fun i wr => i = .int .i64 0 ∧ J [] wr) (fun _ _ => 0)
  case atStart => exact ⟨rfl, h0⟩
  case round =>
    obtain ⟨rfl, hJs⟩ := hrel
    gi_wp2
    go_end0
    exact ⟨⟨_, rfl⟩, hJs⟩
def IntsAt (n₀ : Nat) (W : World) (sv : Value) (zs : List Int) : Prop :=
  (∃ a cap, sv = .slice a 0 cap ∧ zs = []) ∨ ∃ b off cap, sv = .slice (some ⟨b, off, none⟩) zs.length cap ∧ b < n₀ ∧ ∀ j, j < zs.length → W.cell? ⟨b, off + j, none⟩ = some (.int .i64 (zs[j]?.getD 0))
theorem IntsAt.below {n₀ : Nat} {A B : World} (h : Below n₀ A B) {sv : Value} {zs : List Int} : IntsAt n₀ A sv zs → IntsAt n₀ B sv zs
  | .inl e => .inl e
  | .inr ⟨b, off, cap, e, hb, hc⟩ => .inr ⟨b, off, cap, e, hb, fun j hj => (h.cell (p := ⟨b, off + j, none⟩) hb).trans (hc j hj)⟩
theorem values_stops (F : Fence) (n : Nat) (h7 : F.fn 46) (hro : F.round = none) (hn : 1 ≤ n) (Bs n₀ : Nat) (sv : Value) (zs : List Int) (hreach : zs.length * 8 ≤ 140737488351232) (w : World) (hBs : Bs < w.heap.size) (hn₀ : n₀ ≤ w.heap.size)
    (hc : w.cell? ⟨Bs, 0, none⟩ = some sv) (hI : IntsAt n₀ w sv zs) :
    SeqStopsK F n Try.prog 46 #[.pointer (some ⟨Bs, 0, none⟩)] (fun x : Int => #[Value.int .i64 x]) (Below n₀) (fun ys => ys = zs) (fun pre => pre <+: zs) zs.length w := fun l J Jx W hW _ _ hY h0 => by
  have hc' := (hW.cell (p := ⟨Bs, 0, none⟩) hBs).trans hc
  rcases hI.below (hW.mono hn₀) with ⟨a, cap, rfl, rfl⟩ | ⟨b, off, cap, rfl, hb, hcs⟩
  · exact (values1_none_in F n h7 hro l Bs a cap J W hc' h0).mono fun e W' ⟨he, hj⟩ => ⟨he, .inl ⟨_, rfl, hj⟩⟩
  · refine (values1_in F n h7 hro hn l Bs n₀ b off zs.length cap zs hreach hb J Jx hY W hc' hcs h0).mono ?_
    rintro e W' ⟨he, ⟨ys, rfl, hj⟩ | ⟨pre, ⟨k, hk, rfl⟩, hj⟩⟩
    · exact ⟨he, .inl ⟨_, upto_all zs, hj⟩⟩
    · exact ⟨he, .inr ⟨_, by rw [upto_take zs hk]; exact List.take_prefix _ _, hj⟩⟩
theorem info_el : (Try.prog.info? 2).map (fun i => (i.zero, i.size, i.bytes)) = some (some (.int .i64 0), 1, 8) := by kernel_rfl
set_option maxRecDepth 100000 in
set_option maxHeartbeats 2000000 in
/-- A new slice with what the iterator gives. -/
theorem appendSeq_in (F : Fence) (n : Nat) (h3 : F.fn 58) (h5 : F.fn 46) (hro : F.round = none) (hn : 3 ≤ n) (Bs : Nat) (sv : Value) (xs : List Int) (hlen : xs.length ≤ maxLen) (hbytes : xs.length * 8 ≤ 140737488351232) (w : World)
    (hBs : Bs < w.heap.size) (hc : w.cell? ⟨Bs, 0, none⟩ = some sv) (hI : IntsAt w.heap.size w sv xs) :
    CallsIn F n Try.prog 58 #[.slice none 0 0, .func (.func 46) #[] #[.pointer (some ⟨Bs, 0, none⟩)]] w fun e W' => ∃ v, e = .returned v ∧ W'.ownsRow w.heap.size 2 1 v xs.length (xs.map (Value.int .i64)) ∧ (v = .slice none 0 0 ↔ xs = []) ∧ Below w.heap.size w W' := by
  have h1 : 1 ≤ n := by omega
  obtain ⟨i0, hi, hz0, hz1, hz2⟩ := info_parts info_el
  refine callsIn_of_wp_marks Try.func58 rfl h3 ?_ hro
  simp only [Try.ntmps58, List.size_toArray, List.length_cons, List.length_nil, Nat.reduceAdd, Nat.reduceSub, Array.replicate_succ, Array.replicate_zero, List.push_toArray, List.append_toArray, List.nil_append, List.cons_append]
  gi_wp2
  have bO := Boxed.new w 29 (.slice none 0 0)
  have hB0 : Below w.heap.size w (w.alloc (.cells #[.slice none 0 0] 29)) := (Below.refl _ w).alloc (Nat.le_refl _) _
  have hc0 : (w.alloc (.cells #[.slice none 0 0] 29)).cell? ⟨Bs, 0, none⟩ = some sv := (hB0.cell (p := ⟨Bs, 0, none⟩) hBs).trans hc
  refine wpIn_rangeFunc_ownG hro h1 (gf := 46) (lb := #[.pointer (some ⟨Bs, 0, none⟩)]) rfl h5 (enters_of Try.func46 (by kernel_rfl) rfl)
    (values_stops F (n - 1) h5 hro (by omega) Bs w.heap.size sv xs hbytes _ (by simp; omega) (by simp) hc0 (hI.below hB0)) belowK_t (belowK_b (by simp)) (Below.refl _ _) (fun _ => rfl)
    (fun pre W => (∃ v, Boxed W w.heap.size 29 v ∧ W.ownsRow w.heap.size 2 1 v pre.length (pre.map (Value.int .i64)) ∧ (v = .slice none 0 0 ↔ pre = [])) ∧ Below w.heap.size w W)
    (fun _ _ _ => False)
    (OwnFrom.and (Own.from (holdsRow_own w.heap.size w.heap.size 29 2 1 (fun pre => pre.length) (fun pre => pre.map (Value.int .i64)) (fun pre v => v = .slice none 0 0 ↔ pre = [])) _) (ownFrom_below (Nat.le_refl _) (by simp)))
    (fun _ _ _ _ _ hs _ _ => hs)
    ⟨⟨_, bO, World.ownsRow_nil _ _ _ _, by simp⟩, hB0⟩
    (fun x => { tmps := #[.slice none 0 0, .func (.func 46) #[] #[.pointer (some ⟨Bs, 0, none⟩)], .pointer (some ⟨w.heap.size, 0, none⟩), undef, .slice none 0 0, .int .i64 x, .func (.func 46) #[] #[.pointer (some ⟨Bs, 0, none⟩)], .int .i64 x, undef, undef, undef, undef, undef], defers := [] }) ?assign ?body ?done ?stop
  case assign =>
    intro l x W K hK
    gi_wp2
    exact hK
  case body =>
    rintro l pre x W ⟨⟨v, hv, hrow, hnil⟩, hB⟩ hlt
    have hc := hv.cell
    gi_wp2_with (gi_at_builtin; refine wpListIn_append_own _ rfl _ _ 29 rfl w.heap.size 2 i0 (.int .i64 0) 1 8 Try.underlying29 hi hz0 hz1 hz2 rfl (by decide) _ _ _ rfl (hrow.alloc _) ⟨W.heap.size, 0, none⟩ 1 1 [.int .i64 x] rfl rfl (cell_one_new _ _ _) (by simp [Value.oneCell']) (by omega) (by omega) (by have := hB.size; simp; omega) ?_; intro v' w1 hown' hgrow _; obtain ⟨g', cap', rfl⟩ := ownsRow_succ hown'; obtain ⟨hv1, hv2, hr2, hk2, hb2⟩ := hv.appended (by decide) hrow hB.size (Nat.le_refl _) hown' hgrow; have hc1 := hv1.cell; have hf1 := hv1.frozen)
    exact ⟨hk2.from _, hb2, ⟨_, hv2, by simpa using hr2, by simp⟩, hB.trans hb2⟩
  case done =>
    rintro D ys W hD rfl ⟨⟨v, hv, hrow, hnil⟩, hB⟩ hK
    have hc := hv.cell
    gi_wp2
    refine ⟨by simp, .inl ⟨_, _, rfl, run_takeDeferred hK, ?_⟩⟩
    exact ⟨_, results_tmp rfl _ _ _, v, rfl, ownsRow_putObj hrow _ hK rfl, hnil, hB.trans (belowK_b (w := w) (Nat.le_refl _) W D _ _ (by simp at hD; omega) hK rfl rfl)⟩
  case stop =>
    rintro D c pre W _ _ h _
    exact h.elim
end Go.Proofs.Ytpienljnoaendaa.A
end

section
namespace Go.Abs
def sortedL (zs : List Int) : List Int := zs.mergeSort fun x y => decide (x ≤ y)
theorem sortedL_length (zs : List Int) : (sortedL zs).length = zs.length := by simp [sortedL]
theorem sortedL_perm (zs : List Int) : (sortedL zs).Perm zs := List.mergeSort_perm _ _
theorem sortedL_sorted (zs : List Int) : (sortedL zs).Pairwise (fun x y => x ≤ y) := by
  have h := List.pairwise_mergeSort (le := fun x y : Int => decide (x ≤ y)) (fun a b c h1 h2 => by simp at *; omega) (fun a b => by simp; omega) zs
  exact h.imp (by simp)
theorem sorted_unique : ∀ {a b : List Int}, a.Perm b → a.Pairwise (fun x y => x ≤ y) → b.Pairwise (fun x y => x ≤ y) → a = b
  | [], b, h, _, _ => by rw [List.nil_perm] at h; exact h.symm
  | x :: a, [], h, _, _ => by rw [List.perm_nil] at h; exact h
  | x :: a, y :: b, h, ha, hb => by
    have hxy : x = y := by
      have h1 : x ∈ y :: b := h.subset (List.mem_cons_self)
      have h2 : y ∈ x :: a := h.symm.subset (List.mem_cons_self)
      have ha' : ∀ z ∈ a, x ≤ z := fun z hz => List.rel_of_pairwise_cons ha hz
      have hb' : ∀ z ∈ b, y ≤ z := fun z hz => List.rel_of_pairwise_cons hb hz
      rcases List.mem_cons.1 h1 with e | e
      · exact e
      · rcases List.mem_cons.1 h2 with e2 | e2
        · exact e2.symm
        · have := ha' _ e2; have := hb' _ e; omega
    subst hxy
    rw [sorted_unique ((List.perm_cons x).1 h) ha.of_cons hb.of_cons]
theorem seqL_pair (a : Int) (n : Nat) : (seqL a n).Pairwise (fun x y => x < y) := by
  unfold seqL
  rw [List.pairwise_map]
  exact List.pairwise_lt_range.imp (by intro x y h; omega)
theorem seqL_sorted (a : Int) (n : Nat) : (seqL a n).Pairwise (fun x y => x ≤ y) := (seqL_pair a n).imp (by intro x y h; omega)
theorem seqL_nodup (a : Int) (n : Nat) : (seqL a n).Nodup := (seqL_pair a n).imp (by intro x y h; omega)
theorem mem_seqL_iff (a : Int) (n : Nat) (x : Int) : x ∈ seqL a n ↔ a ≤ x ∧ x < a + n := by
  unfold seqL
  rw [List.mem_map]
  constructor
  · rintro ⟨i, hi, rfl⟩
    have : i < n := by simpa using hi
    constructor <;> omega
  · rintro ⟨h1, h2⟩
    exact ⟨(x - a).toNat, by simp; omega, by omega⟩
theorem sortedL_eq {y z : List Int} (h : y.Perm z) (hz : z.Pairwise (fun x y => x ≤ y)) : sortedL y = z :=
  sorted_unique ((sortedL_perm y).trans h) (sortedL_sorted y) hz
theorem sortedL_seq (a : Int) (n : Nat) (y : List Int) : sortedL y = seqL a n ↔ y.Perm (seqL a n) :=
  ⟨fun h => h ▸ (sortedL_perm y).symm, fun h => sortedL_eq h (seqL_sorted a n)⟩
theorem perm_of_nodup {α : Type} [DecidableEq α] : ∀ (y z : List α), y.Nodup → (∀ x ∈ y, x ∈ z) → z.length ≤ y.length → y.Perm z
  | [], z, _, _, h => by
    have : z = [] := List.eq_nil_of_length_eq_zero (by simpa using h)
    rw [this]
  | a :: y, z, hn, hs, h => by
    have ha : a ∈ z := hs a (List.mem_cons_self)
    have hn' := List.nodup_cons.1 hn
    have hp := List.perm_cons_erase ha
    have hl := List.length_erase_of_mem ha
    have hz : 0 < z.length := List.length_pos_of_mem ha
    have ih := perm_of_nodup y (z.erase a) hn'.2 (fun x hx => (List.mem_erase_of_ne (by rintro rfl; exact hn'.1 hx)).2 (hs x (List.mem_cons_of_mem _ hx))) (by rw [hl]; simp at h; omega)
    exact (ih.cons a).trans hp.symm
def ordB (n : Nat) (y : List Int) : Bool := decide (y.length = n) && decide (sortedL y = seqL 0 n)
theorem ordB_iff (n : Nat) (y : List Int) : ordB n y = true ↔ y.length = n ∧ (∀ x ∈ y, 0 ≤ x ∧ x < n) ∧ y.Nodup := by
  unfold ordB
  rw [Bool.and_eq_true, decide_eq_true_iff, decide_eq_true_iff, sortedL_seq]
  constructor
  · rintro ⟨h1, h2⟩
    refine ⟨h1, fun x hx => ?_, (h2.nodup_iff).2 (seqL_nodup 0 n)⟩
    have := (mem_seqL_iff 0 n x).1 (h2.subset hx)
    omega
  · rintro ⟨h1, h2, h3⟩
    exact ⟨h1, perm_of_nodup y _ h3 (fun x hx => (mem_seqL_iff 0 n x).2 (by have := h2 x hx; omega)) (by rw [seqL_length]; omega)⟩
theorem take_snoc {α : Type} (y : List α) (d : α) (i : Nat) (hi : i < y.length) : y.take (i + 1) = y.take i ++ [y.getD i d] := by
  rw [List.take_add_one, List.getElem?_eq_getElem hi, List.getD_eq_getElem?_getD, List.getElem?_eq_getElem hi]
  rfl
theorem nodup_snoc {α : Type} [DecidableEq α] {y : List α} {x : α} : (y ++ [x]).Nodup ↔ y.Nodup ∧ x ∉ y := by
  rw [List.nodup_append]
  constructor
  · rintro ⟨h1, _, h2⟩
    exact ⟨h1, fun h => h2 x h x (by simp) rfl⟩
  · rintro ⟨h1, h2⟩
    refine ⟨h1, by simp, fun a ha b hb e => ?_⟩
    rw [List.mem_singleton] at hb
    subst hb; subst e; exact h2 ha
theorem nodup_take {α : Type} {y : List α} (h : y.Nodup) (i : Nat) : (y.take i).Nodup := h.sublist (List.take_sublist _ _)
def goodTo (n : Nat) (y : List Int) (i : Nat) : Prop := (∀ x ∈ y.take i, 0 ≤ x ∧ x < n) ∧ (y.take i).Nodup
theorem goodTo_zero (n : Nat) (y : List Int) : goodTo n y 0 := ⟨by simp, by simp⟩
theorem goodTo_succ {n : Nat} {y : List Int} {i : Nat} (hi : i < y.length) (h : goodTo n y i) (h1 : 0 ≤ y.getD i 0 ∧ y.getD i 0 < n) (h2 : (y.take i).contains (y.getD i 0) = false) : goodTo n y (i + 1) := by
  unfold goodTo
  rw [take_snoc y 0 i hi]
  refine ⟨fun x hx => ?_, nodup_snoc.2 ⟨h.2, fun hm => ?_⟩⟩
  · rcases List.mem_append.1 hx with hx | hx
    · exact h.1 x hx
    · rw [List.mem_singleton] at hx; rw [hx]; exact h1
  · rw [List.contains_iff_mem.2 hm] at h2; cases h2
theorem goodTo_all {n : Nat} {y : List Int} (h : goodTo n y y.length) : ordB n y = decide (y.length = n) := by
  unfold goodTo at h
  rw [List.take_length] at h
  by_cases e : y.length = n
  · rw [decide_eq_true e, ordB_iff]; exact ⟨e, h.1, h.2⟩
  · unfold ordB; rw [decide_eq_false e]; rfl
theorem ordB_bad {n : Nat} {y : List Int} {i : Nat} (hi : i < y.length) (h : ¬ (0 ≤ y.getD i 0 ∧ y.getD i 0 < n) ∨ (y.take i).contains (y.getD i 0) = true) : ordB n y = false := by
  rw [Bool.eq_false_iff]
  intro ho
  obtain ⟨_, h1, h2⟩ := (ordB_iff n y).1 ho
  rcases h with h | h
  · exact h (h1 _ (by rw [List.getD_eq_getElem?_getD, List.getElem?_eq_getElem hi]; exact List.getElem_mem _))
  · have h3 := nodup_take h2 (i + 1)
    rw [take_snoc y 0 i hi] at h3
    exact (nodup_snoc.1 h3).2 (List.contains_iff_mem.1 h)
theorem ordB_sorted_bad {n : Nat} {y : List Int} {i : Nat} (hi : i < y.length) (h : (sortedL y).getD i 0 ≠ (i : Int)) : ordB n y = false := by
  rw [Bool.eq_false_iff]
  intro ho
  unfold ordB at ho
  rw [Bool.and_eq_true, decide_eq_true_iff, decide_eq_true_iff] at ho
  rw [ho.2, seqL_getD 0 n i (by omega)] at h
  omega
theorem ordB_sorted_all {n : Nat} {y : List Int} (h : ∀ i, i < y.length → (sortedL y).getD i 0 = (i : Int)) : ordB n y = decide (y.length = n) := by
  by_cases e : y.length = n
  · unfold ordB
    rw [decide_eq_true e, Bool.true_and, decide_eq_true_iff]
    apply List.ext_getElem?
    intro i
    by_cases hi : i < y.length
    · have h1 := h i hi
      have h2 := seqL_getD 0 n i (by omega)
      rw [List.getElem?_eq_getElem (by rw [sortedL_length]; exact hi), List.getElem?_eq_getElem (by rw [seqL_length]; omega)]
      rw [List.getD_eq_getElem?_getD, List.getElem?_eq_getElem (by rw [sortedL_length]; exact hi)] at h1
      rw [List.getD_eq_getElem?_getD, List.getElem?_eq_getElem (by rw [seqL_length]; omega)] at h2
      simp only [Option.getD_some] at h1 h2
      rw [h1, h2]
      congr 1; omega
    · rw [List.getElem?_eq_none (by rw [sortedL_length]; omega), List.getElem?_eq_none (by rw [seqL_length]; omega)]
  · unfold ordB; rw [decide_eq_false e]; rfl
def metL (n : Nat) (y : List Int) : List Bool := (List.range n).map fun (j : Nat) => y.contains (j : Int)
theorem metL_length (n : Nat) (y : List Int) : (metL n y).length = n := by simp [metL]
theorem metL_nil (n : Nat) : metL n [] = List.replicate n false := by
  unfold metL
  exact List.eq_replicate_iff.2 ⟨by simp, by intro b hb; obtain ⟨a, _, rfl⟩ := List.mem_map.1 hb; rfl⟩
theorem metL_getD (n : Nat) (y : List Int) (x : Int) (h : 0 ≤ x ∧ x < n) : (metL n y).getD x.toNat false = y.contains x := by
  unfold metL
  rw [List.getD_eq_getElem?_getD, List.getElem?_map, List.getElem?_range (by omega)]
  simp only [Option.map_some, Option.getD_some]
  rw [show ((x.toNat : Nat) : Int) = x by omega]
theorem contains_snoc (y : List Int) (x z : Int) : (y ++ [x]).contains z = (y.contains z || z == x) := by
  rw [Bool.eq_iff_iff, Bool.or_eq_true, List.contains_iff_mem, List.contains_iff_mem, List.mem_append, List.mem_singleton, beq_iff_eq]
theorem metL_set (n : Nat) (y : List Int) (x : Int) (h : 0 ≤ x ∧ x < n) : (metL n y).set x.toNat true = metL n (y ++ [x]) := by
  apply List.ext_getElem?
  intro j
  rw [List.getElem?_set, metL_length]
  unfold metL
  rw [List.getElem?_map, List.getElem?_map]
  by_cases hj : j < n
  · rw [List.getElem?_range hj]
    simp only [Option.map_some]
    rw [contains_snoc]
    by_cases e : x.toNat = j
    · rw [if_pos e, if_pos (by omega)]
      have : ((j : Int) == x) = true := by rw [beq_iff_eq]; omega
      rw [this, Bool.or_true]
    · rw [if_neg e]
      have : ((j : Int) == x) = false := by rw [beq_eq_false_iff_ne]; omega
      rw [this, Bool.or_false]
  · have e : ¬ x.toNat = j := by omega
    rw [if_neg e, List.getElem?_eq_none (by simpa using hj)]
    rfl
/-! ### Steps -/
def stpI (n : Nat) (a b : Int) : Int := (b - a) % (n : Int)
def stpL (n : Nat) (y : List Int) : List Int := (List.range (y.length - 1)).map fun i => stpI n (y.getD i 0) (y.getD (i + 1) 0)
theorem stpL_length (n : Nat) (y : List Int) : (stpL n y).length = y.length - 1 := by simp [stpL]
end Go.Abs
end

section
namespace Go.Proofs.Ytpienljnoaendaa.A
open Go Go.RowKit Go.Shelf Go.Sort
open Go.Abs (sortedL)
attribute [local go_sem] Oper.semAt_some
def SortsAt : Prop :=
  (∀ (blk off cap : Nat) (zs : List Int) (w : World), Holds (Value.int .i64) w blk off zs.toArray → blk < w.heap.size → zs.length < 4611686018427387904 →
    Calls Try.prog 45 #[.slice (some ⟨blk, off, none⟩) zs.length cap] w fun e w' => e = .returned (.tuple #[]) ∧ ∃ n os, w' = grow (putRow (Value.int .i64) (Sort.ahead w n) blk off (sortedL zs).toArray) os) ∧
  (∀ (p : Option Addr) (cap : Nat) (w : World), Calls Try.prog 45 #[.slice p 0 cap] w fun e w' => e = .returned (.tuple #[]) ∧ w' = w)
set_option maxRecDepth 100000 in
set_option maxHeartbeats 2000000 in
theorem collect_in (F : Fence) (n : Nat) (h2 : F.fn 44) (h3 : F.fn 58) (h5 : F.fn 46) (hro : F.round = none) (hn : 4 ≤ n) (Bs : Nat) (sv : Value) (xs : List Int) (hlen : xs.length ≤ maxLen) (hbytes : xs.length * 8 ≤ 140737488351232) (w : World)
    (hBs : Bs < w.heap.size) (hc : w.cell? ⟨Bs, 0, none⟩ = some sv) (hI : IntsAt w.heap.size w sv xs) :
    CallsIn F n Try.prog 44 #[.func (.func 46) #[] #[.pointer (some ⟨Bs, 0, none⟩)]] w fun e W' => ∃ v, e = .returned v ∧ W'.ownsRow w.heap.size 2 1 v xs.length (xs.map (Value.int .i64)) ∧ (v = .slice none 0 0 ↔ xs = []) ∧ Below w.heap.size w W' := by
  have h1 : 1 ≤ n := by omega
  have e3 : ∀ args w, (callFunc 58 args).run Try.prog w = .ok (.enter 58 args) w := enters_of Try.func58 (by kernel_rfl) rfl
  refine callsIn_of_wp Try.func44 rfl h2 ?_ hro
  simp only [Try.ntmps44, List.size_toArray, List.length_cons, List.length_nil, Nat.reduceAdd, Nat.reduceSub, Array.replicate_succ, Array.replicate_zero, List.push_toArray, List.append_toArray, List.nil_append, List.cons_append]
  gi_wp2_with (gi_at_call 58; refine (appendSeq_in F (n - 1) h3 h5 hro (by omega) Bs sv xs hlen hbytes _ hBs hc hI).mono ?_; rintro e w' ⟨v, rfl, hrow, hnil, hb⟩)
  go_ret
  exact ⟨v, rfl, hrow, hnil, hb⟩
set_option maxRecDepth 100000 in
set_option maxHeartbeats 2000000 in
theorem sorted_in (hsort : SortsAt) (Bs : Nat) (sv : Value) (xs : List Int) (hlen : xs.length ≤ maxLen) (hbytes : xs.length * 8 ≤ 140737488351232) (w : World)
    (hBs : Bs < w.heap.size) (hc : w.cell? ⟨Bs, 0, none⟩ = some sv) (hI : IntsAt w.heap.size w sv xs) :
    Calls Try.prog 27 #[.func (.func 46) #[] #[.pointer (some ⟨Bs, 0, none⟩)]] w fun e W' => ∃ v, e = .returned v ∧ W'.ownsRow w.heap.size 2 1 v xs.length ((sortedL xs).map (Value.int .i64)) ∧ (v = .slice none 0 0 ↔ xs = []) ∧ Below w.heap.size w W' := by
  refine (callsIn_wide (n := 8)).1 ?_
  have h1 : 1 ≤ 8 := by omega
  have e2 : ∀ args w, (callFunc 44 args).run Try.prog w = .ok (.enter 44 args) w := enters_of Try.func44 (by kernel_rfl) rfl
  have e9 : ∀ args w, (callFunc 45 args).run Try.prog w = .ok (.enter 45 args) w := enters_of Try.func45 (by kernel_rfl) rfl
  refine callsIn_of_wp Try.func27 rfl trivial ?_ rfl
  simp only [Try.ntmps27, List.size_toArray, List.length_cons, List.length_nil, Nat.reduceAdd, Nat.reduceSub, Array.replicate_succ, Array.replicate_zero, List.push_toArray, List.append_toArray, List.nil_append, List.cons_append]
  have hfK : Fence.wide.fn 44 := trivial
  have hfS : Fence.wide.fn 45 := trivial
  gi_wp2_with (gi_at_call 44; refine (collect_in Fence.wide _ trivial trivial trivial rfl (by omega) Bs sv xs hlen hbytes _ hBs hc hI).mono ?_; rintro e W ⟨v, rfl, hrow, hnil, hb⟩)
  rcases hrow.2 with ⟨rfl, hz⟩ | ⟨gb, cap, cur, rfl, hbase, hgb, r1, r2, r3, r4⟩
  · have hss : xs = [] := List.eq_nil_of_length_eq_zero hz
    subst hss
    have cN := callsIn_wide (n := 7).2 (hsort.2 none 0 W)
    gi_wp2_with (gi_at_call 45; refine cN.mono ?_; rintro e w' ⟨rfl, rfl⟩)
    go_ret
    exact ⟨.slice none 0 0, rfl, by simpa [sortedL] using hrow, by simp, hb⟩
  · have hH : Holds (Value.int .i64) W gb 0 xs.toArray := holds_of_blockI hgb (by simpa using r4)
    have hgl : gb < W.heap.size := (Array.getElem?_eq_some_iff.1 hgb).1
    have hsz : xs.length < 4611686018427387904 := by omega
    have cS := callsIn_wide (n := 7).2 (hsort.1 gb 0 cap xs W hH hgl hsz)
    gi_wp2_with (gi_at_call 45; refine cS.mono ?_; rintro e w' ⟨rfl, nn, os, rfl⟩)
    go_ret
    exact ⟨_, rfl, ownsRow_sortedI (by simp [sortedL]) hbase hgb r1 r2 r3, hnil, hb.grown (grownBy_sortedI _) hb.size (fun j hj => by cases hj; exact hbase)⟩
end Go.Proofs.Ytpienljnoaendaa.A
end

section
namespace Go.Abs
open Go Go.RowKit
section
variable {base : Nat} {ρ : Nat → Nat} {H : AH} {w w' : World}
theorem bsz_lt {b k : Nat} (h : bsz w b = some k) : b < w.heap.size := by
  rcases Nat.lt_or_ge b w.heap.size with h' | h'
  · exact h'
  · simp [bsz, Array.getElem?_eq_none h'] at h
theorem bsz_below (hB : Below w.heap.size w w') {b k : Nat} (h : bsz w b = some k) : bsz w' b = some k := by
  have hb := bsz_lt h
  unfold bsz at *
  rw [hB.block b hb]; exact h
theorem Rel.below (R : Rel base ρ H w) (hB : Below w.heap.size w w') : Rel base ρ H w' ∧ Ext base ρ H.next w ρ H.next w' := by
  have E : Ext base ρ H.next w ρ H.next w' := ⟨Nat.le_refl _, fun _ _ => rfl, hB.mono R.sz, fun b k h => bsz_below hB h⟩
  refine ⟨⟨R.scope, fun i r h hb => ⟨(R.ro i r h hb).1, fun j v hv ho => ?_⟩, fun i r h hb => ?_, R.inj, Nat.le_trans R.sz hB.size⟩, E⟩
  · obtain ⟨v', a, b⟩ := (R.ro i r h hb).2 j v hv ho
    exact ⟨v', (hB.cell (p := ⟨ρ i, j, none⟩) (World.block_lt_of_cell? w _ a)).trans a, b.ext E⟩
  · obtain ⟨a, cs, b, c⟩ := R.rwr i r h hb
    exact ⟨a, cs, (hB.block _ (R.lt_heap h hb)).trans b, c.ext E⟩
theorem Rel.newRow (R : Rel base ρ H w) (hB : Below w.heap.size w w') {g : Nat} (hg : w.heap.size ≤ g) {ty : TypeId} {cs : Array Value} (hcs : w'.heap[g]? = some (.cells cs ty (0, 0))) {xs : List Value} (hx : L1 ρ H.next w xs (cs.toList.take xs.length)) :
    Rel base (ren ρ H.next g) (H.push ⟨ty, true, xs⟩) w' ∧ Ext base ρ H.next w (ren ρ H.next g) (H.push ⟨ty, true, xs⟩).next w' := by
  have old : ∀ i, i < H.next → ren ρ H.next g i = ρ i := fun i hi => by unfold ren; rw [if_neg (by omega)]
  have new : ren ρ H.next g H.next = g := by unfold ren; rw [if_pos rfl]
  have E : Ext base ρ H.next w (ren ρ H.next g) (H.next + 1) w' := ⟨Nat.le_succ _, old, hB.mono R.sz, fun b k h => bsz_below hB h⟩
  obtain ⟨R', _⟩ := R.below hB
  have hsz := R.sz
  refine ⟨⟨?_, ?_, ?_, ?_, R'.sz⟩, E⟩
  · intro i r hr
    rw [AH.push_row] at hr
    rw [AH.push_next]
    split at hr
    · omega
    · have := R.scope i r hr; omega
  · intro i r hr hb
    rw [AH.push_row] at hr
    split at hr
    · simp at hr; subst hr; simp at hb
    · have hi := R.scope i r hr
      rw [old i hi]
      obtain ⟨h1, h2⟩ := R.ro i r hr hb
      refine ⟨h1, fun j v hv ho => ?_⟩
      obtain ⟨v', a, b⟩ := h2 j v hv ho
      exact ⟨v', (hB.cell (p := ⟨ρ i, j, none⟩) (World.block_lt_of_cell? w _ a)).trans a, b.ext E⟩
  · intro i r hr hb
    rw [AH.push_row] at hr
    split at hr
    · rename_i e; subst e
      simp at hr; subst hr
      rw [new]
      exact ⟨by omega, cs, hcs, hx.ext E⟩
    · have hi := R.scope i r hr
      obtain ⟨a, cs', b, c⟩ := R.rwr i r hr hb
      rw [old i hi]
      exact ⟨a, cs', (hB.block _ (R.lt_heap hr hb)).trans b, c.ext E⟩
  · intro i j r s hr hs hb hc he
    rw [AH.push_row] at hr hs
    split at hr <;> split at hs
    · rename_i e1 e2; rw [e1, e2]
    · rename_i e1 e2
      have hj := R.scope j s hs
      rw [e1, new, old j hj] at he
      have := R.lt_heap hs hc
      omega
    · rename_i e1 e2
      have hi := R.scope i r hr
      rw [e2, new, old i hi] at he
      have := R.lt_heap hr hb
      omega
    · have hi := R.scope i r hr
      have hj := R.scope j s hs
      rw [old i hi, old j hj] at he
      exact R.inj i j r s hr hs hb hc he
theorem Rd.cellsAt (R : Rel base ρ H w) {v v' : Value} {n : Nat} {l : List Int} (h : Rd 1 H v n l) (hv : VR ρ H.next w v v') :
    (∃ a c, v' = .slice a 0 c ∧ l = []) ∨ ∃ b o c, v' = .slice (some ⟨b, o, none⟩) l.length c ∧ b < w.heap.size ∧ ∀ j, j < l.length → w.cell? ⟨b, o + j, none⟩ = some (.int .i64 (l[j]?.getD 0)) := by
  obtain ⟨hl, hc⟩ := h
  rw [Nat.mul_one] at hl
  by_cases h0 : n = 0
  · left
    have hl0 : l = [] := List.eq_nil_of_length_eq_zero (by omega)
    subst h0
    have key : ∃ a c, v = .slice a 0 c := by
      rcases hc with ⟨_, a, c, rfl, _⟩ | ⟨i, o, u, c, r, rfl, _⟩
      · exact ⟨_, _, rfl⟩
      · exact ⟨_, _, rfl⟩
    obtain ⟨a, c, rfl⟩ := key
    cases hv with
    | one h =>
      cases h with
      | scal v hs => exact ⟨_, _, rfl, hl0⟩
      | sle i o n c hi => exact ⟨_, _, rfl, hl0⟩
      | slu i o n c e a c' hi hn hr => exact ⟨_, _, rfl, hl0⟩
  · right
    rcases hc with ⟨h1, _⟩ | ⟨i, o, u, c, r, rfl, hr, hlen, hseg⟩
    · exact absurd h1 h0
    · rw [Nat.mul_one] at hlen hseg
      have hok : r.ok ((r.cells.drop o).take n) := .inr fun x hx => by
        have hs : (r.cells.drop o).take n = ints l := hseg
        rw [hs] at hx
        obtain ⟨y, _, rfl⟩ := List.mem_map.1 hx
        rfl
      obtain ⟨ys, hys, hcell, hL⟩ := R.cells hr hlen hok
      have hs : (r.cells.drop o).take n = ints l := hseg
      rw [hs] at hL
      have hcells : ∀ j, j < l.length → w.cell? ⟨ρ i, o + j, none⟩ = some (.int .i64 (l[j]?.getD 0)) := by
        intro j hj
        have hx : (ints l)[j]? = some (.int .i64 (l.getD j 0)) := ints_get? l j hj
        obtain ⟨y, hy, hv1⟩ := hL.get hx
        have e := VR.int (.one hv1)
        rw [hcell j y hy, e, List.getD_eq_getElem?_getD]
      have hlt : ρ i < w.heap.size := World.block_lt_of_cell? w _ (hcells 0 (by omega))
      rw [hl]
      cases hv with
      | one h =>
        cases h with
        | scal v hs => simp [Abs.scal] at hs
        | sle i o n c hi => exact ⟨ρ i, o, c, rfl, hlt, fun j hj => hcells j (by omega)⟩
        | slu i o n c e a c' hi hn hr =>
          rcases hr with ⟨rfl, _⟩ | ⟨h1, _⟩
          · exact ⟨ρ i, o, c', rfl, hlt, fun j hj => hcells j (by omega)⟩
          · exact absurd h1 h0
theorem Rel.newInts (R : Rel base ρ H w) (hB : Below w.heap.size w w') {ty : TypeId} {v' : Value} {l : List Int} (h : w'.ownsRow w.heap.size ty 1 v' l.length (l.map (Value.int .i64))) :
    ∃ v H' ρ', Up H.next H H' ∧ Fr 1 ty H.next H'.next H' v l.length l ∧ Rel base ρ' H' w' ∧ VR ρ' H'.next w' v v' ∧ Ext base ρ H.next w ρ' H'.next w' := by
  rcases h.2 with ⟨rfl, h0⟩ | ⟨g, cap, cur, rfl, hg, hcs, h1, h2, h3, h4⟩
  · obtain ⟨R', E⟩ := R.below hB
    exact ⟨_, H, ρ, Up.refl _ _, ⟨by omega, .inl ⟨h0, rfl⟩⟩, R', .scal rfl, E⟩
  · rw [Nat.mul_one] at h4 h3
    have hx : L1 ρ H.next w (ints l) (cur.toList.take (ints l).length) := by
      rw [ints_length, h4]
      exact L1.self fun v hv => by obtain ⟨y, _, rfl⟩ := List.mem_map.1 hv; rfl
    obtain ⟨R', E⟩ := R.newRow hB hg hcs hx
    have new : ren ρ H.next g H.next = g := by unfold ren; rw [if_pos rfl]
    have ht : VR (ren ρ H.next g) (H.push ⟨ty, true, ints l⟩).next w' (.slice (some ⟨H.next, 0, some 1⟩) l.length l.length) (.slice (some ⟨g, 0, none⟩) l.length cap) := by
      refine .one (.slu _ _ _ _ _ _ _ (Nat.lt_succ_self _) h1 (.inl ⟨by rw [new], ?_, h2⟩))
      rw [new]
      simp [bsz, hcs, h3]
    exact ⟨_, _, _, (Up.refl _ H).push (Nat.le_refl _) _, ⟨by omega, .inr ⟨H.next, Nat.le_refl _, Nat.lt_succ_self _, rfl, by rw [AH.push_row, if_pos rfl]⟩⟩, R', ht, E⟩
end
end Go.Abs
end

section
set_option maxRecDepth 100000
set_option maxHeartbeats 2000000
namespace Go.Proofs.Ytpienljnoaendaa.A
open Go Go.Abs Go.RowKit Go.Shelf Go.Sort
def sortRen : Go.Shelf.Ren := ⟨fun | 5 => 45 | 8 => 60 | 7 => 59 | 19 => 76 | 20 => 77 | 10 => 67 | 11 => 68 | 12 => 69 | 13 => 70 | 14 => 71 | 15 => 72 | 16 => 73 | 17 => 74 | 18 => 75 | 30 => 87 | 31 => 88 | 32 => 89 | 33 => 90 | 34 => 91 | 35 => 86 | 40 => 95 | n => n, fun | 23 => 29 | 25 => 2 | 3 => 3 | 32 => 76 | 22 => 29 | 0 => 0 | 44 => 95 | 46 => 61 | 4 => 4 | 36 => 87 | 35 => 86 | 41 => 92 | 5 => 5 | 9 => 9 | 53 => 102 | 57 => 106 | 63 => 110 | 64 => 111 | n => n, fun | n => n⟩
theorem sortLy : Go.Proofs.SlLaysM.n5 Try.prog sortRen := {
  mixed := by kernel_rfl
  f5 := ⟨Try.f45.name, by decide, Try.func45.trans (congrArg some (by kernel_rfl))⟩
  f7 := ⟨Try.f59.name, by decide, Try.func59.trans (congrArg some (by kernel_rfl))⟩
  f8 := Try.func60.trans (congrArg some (by kernel_rfl))
  f10 := ⟨Try.f67.name, by decide, Try.func67.trans (congrArg some (by kernel_rfl))⟩
  f11 := ⟨Try.f68.name, by decide, Try.func68.trans (congrArg some (by kernel_rfl))⟩
  f12 := ⟨Try.f69.name, by decide, Try.func69.trans (congrArg some (by kernel_rfl))⟩
  f13 := ⟨Try.f70.name, by decide, Try.func70.trans (congrArg some (by kernel_rfl))⟩
  f14 := ⟨Try.f71.name, by decide, Try.func71.trans (congrArg some (by kernel_rfl))⟩
  f15 := ⟨Try.f72.name, by decide, Try.func72.trans (congrArg some (by kernel_rfl))⟩
  f16 := ⟨Try.f73.name, by decide, Try.func73.trans (congrArg some (by kernel_rfl))⟩
  f17 := ⟨Try.f74.name, by decide, Try.func74.trans (congrArg some (by kernel_rfl))⟩
  f18 := ⟨Try.f75.name, by decide, Try.func75.trans (congrArg some (by kernel_rfl))⟩
  f19 := Try.func76.trans (congrArg some (by kernel_rfl))
  f20 := Try.func77.trans (congrArg some (by kernel_rfl))
  f30 := ⟨Try.f87.name, by decide, Try.func87.trans (congrArg some (by kernel_rfl))⟩
  f31 := Try.func88.trans (congrArg some (by kernel_rfl))
  f32 := Try.func89.trans (congrArg some (by kernel_rfl))
  f33 := ⟨Try.f90.name, by decide, Try.func90.trans (congrArg some (by kernel_rfl))⟩
  f34 := ⟨Try.f91.name, by decide, Try.func91.trans (congrArg some (by kernel_rfl))⟩
  f35 := ⟨Try.f86.name, by decide, Try.func86.trans (congrArg some (by kernel_rfl))⟩
  f40 := ⟨Try.f95.name, by decide, Try.func95.trans (congrArg some (by kernel_rfl))⟩
  t0 := Try.underlying0
  a0 := Try.isAgg0
  z0 := Try.sizeOf0
  v0 := Try.zeroValue0
  t3 := Try.underlying3
  a3 := Try.isAgg3
  z3 := Try.sizeOf3
  v3 := Try.zeroValue3
  t4 := Try.underlying4
  a4 := Try.isAgg4
  z4 := Try.sizeOf4
  v4 := Try.zeroValue4
  t5 := Try.underlying5
  a5 := Try.isAgg5
  z5 := Try.sizeOf5
  v5 := Try.zeroValue5
  t9 := Try.underlying9
  a9 := Try.isAgg9
  z9 := Try.sizeOf9
  v9 := Try.zeroValue9
  t22 := Try.underlying29
  a22 := Try.isAgg29
  z22 := Try.sizeOf29
  v22 := Try.zeroValue29
  t23 := Try.underlying29
  a23 := Try.isAgg29
  z23 := Try.sizeOf29
  v23 := Try.zeroValue29
  t25 := Try.underlying2
  a25 := Try.isAgg2
  z25 := Try.sizeOf2
  v25 := Try.zeroValue2
  t32 := Try.underlying76
  a32 := Try.isAgg76
  z32 := Try.sizeOf76
  v32 := Try.zeroValue76
  t35 := Try.underlying86
  a35 := Try.isAgg86
  z35 := Try.sizeOf86
  v35 := Try.zeroValue86
  t36 := Try.underlying87
  a36 := Try.isAgg87
  z36 := Try.sizeOf87
  v36 := Try.zeroValue87
  t41 := Try.underlying92
  a41 := Try.isAgg92
  z41 := Try.sizeOf92
  v41 := Try.zeroValue92
  t44 := Try.underlying95
  a44 := Try.isAgg95
  z44 := Try.sizeOf95
  v44 := Try.zeroValue95
  t46 := Try.underlying61
  a46 := Try.isAgg61
  z46 := Try.sizeOf61
  v46 := Try.zeroValue61
  t53 := Try.underlying102
  a53 := Try.isAgg102
  z53 := Try.sizeOf102
  v53 := Try.zeroValue102
  t57 := Try.underlying106
  a57 := Try.isAgg106
  z57 := Try.sizeOf106
  v57 := Try.zeroValue106
  t63 := Try.underlying110
  a63 := Try.isAgg110
  z63 := Try.sizeOf110
  v63 := Try.zeroValue110
  t64 := Try.underlying111
  a64 := Try.isAgg111
  z64 := Try.sizeOf111
  v64 := Try.zeroValue111 }
theorem sortsAt : SortsAt := ⟨fun blk off cap zs w hH hb hs => AnyM.slices_Sort_int sortLy blk off cap zs w hH hb hs, fun p cap w => AnyM.slices_Sort_int_none sortLy p cap w⟩
theorem sorted_c (b : Nat) (v : Value) (y : List Int) (H : AH) (hb : H.row b = some ⟨29, true, [v]⟩) (hv : Rd 1 H v y.length y) (hy : y.length ≤ 4294967296) :
    ACalls Try.prog 27 [.func (.func 46) #[] #[.pointer (some ⟨b, 0, none⟩)]] H (fun u H' => Up H.next H H' ∧ Fr 1 2 H.next H'.next H' u y.length (sortedL y)) := by
  refine ⟨by kernel_rfl, fun base ρ w args' R hL => ?_⟩
  obtain ⟨hl, hx⟩ := hL
  match args', hl, hx with
  | [a], _, hx =>
    obtain ⟨_, ys, e1, e2, e3⟩ := VR.func (hx 0 _ _ rfl rfl)
    have hp : ys = #[.pointer (some ⟨ρ b, 0, none⟩)] := by
      rcases ys with ⟨zs⟩
      match zs, e2, e3 with
      | [z], _, e3 =>
        have := VR.ptr (.one (e3 0 _ _ rfl rfl))
        have h : z = .pointer (some ⟨ρ b, 0, none⟩) := this.2.2
        subst h; rfl
    rw [e1, hp]
    obtain ⟨sv, hc, hsv⟩ := R.cell (i := b) (j := 0) hb rfl (.inl rfl)
    have hI : IntsAt w.heap.size w sv y := by
      rcases Rd.cellsAt R hv (.one hsv) with ⟨a, c, h1, h2⟩ | ⟨b', o, c, h1, h2, h3⟩
      · exact .inl ⟨a, c, h1, h2⟩
      · exact .inr ⟨b', o, c, h1, h2, h3⟩
    have hsl : (sortedL y).length = y.length := by simp [sortedL]
    refine (sorted_in sortsAt (ρ b) sv y (Nat.le_trans hy (by decide)) (by omega) w (World.block_lt_of_cell? w _ hc) hc hI).mono ?_
    rintro e w' ⟨v', rfl, hrow, _, hB⟩
    rw [← hsl] at hrow ⊢
    obtain ⟨u, H', ρ', h1, h2, h3, h4, h5⟩ := R.newInts hB hrow
    exact ⟨v', u, H', ρ', rfl, ⟨h1, h2⟩, h3, h4, h5⟩
end Go.Proofs.Ytpienljnoaendaa.A
end

section
namespace Go.Abs
def sqE (n i : Nat) (y : List Int) (j : Nat) : Int := Int.tmod ((i : Int) + y.getD j 0) n
def sqR (n : Nat) (y : List Int) (i c : Nat) : List Int := (List.range n).map fun j => if j < c then sqE n i y j else 0
def sqM (n : Nat) (y : List Int) (i c : Nat) : List (List Int) := (List.range n).map fun a => if a < i then sqR n y a n else if a = i then sqR n y a c else List.replicate n 0
theorem sqR_length (n : Nat) (y : List Int) (i c : Nat) : (sqR n y i c).length = n := by simp [sqR]
theorem sqM_length (n : Nat) (y : List Int) (i c : Nat) : (sqM n y i c).length = n := by simp [sqM]
def sqA (n : Nat) (y : List Int) (a : Nat) : List (List Int) := (List.range a).map fun i => sqR n y i n
def sqP (n : Nat) (y : List Int) (i c : Nat) : List Int := (List.range c).map fun j => sqE n i y j
theorem sqA_length (n : Nat) (y : List Int) (a : Nat) : (sqA n y a).length = a := by simp [sqA]
theorem sqP_length (n : Nat) (y : List Int) (i c : Nat) : (sqP n y i c).length = c := by simp [sqP]
end Go.Abs
end

section
namespace Go.Abs
open Go Go.RowKit
def bools (l : List Bool) : List Value := l.map .bool
theorem bools_length (l : List Bool) : (bools l).length = l.length := by simp [bools]
theorem bools_get? (l : List Bool) (i : Nat) (h : i < l.length) : (bools l)[i]? = some (.bool (l.getD i false)) := by simp [bools, h]
theorem bools_set (l : List Bool) (i : Nat) (x : Bool) : (bools l).set i (.bool x) = bools (l.set i x) := by simp [bools, List.map_set]
theorem zeros_bools (n : Nat) : zeros n [.bool false] = bools (List.replicate n false) := by
  unfold zeros bools
  induction n with
  | zero => rfl
  | succ n ih => rw [List.replicate_succ, List.flatten_cons, ih, List.replicate_succ]; rfl
theorem metL_get? (n : Nat) (y : List Int) (x : Int) (h : 0 ≤ x ∧ x < n) : (bools (metL n y))[x.toNat]? = some (.bool (y.contains x)) := by
  rw [bools_get? _ _ (by rw [metL_length]; omega), metL_getD n y x h]
theorem metL_put (n : Nat) (y : List Int) (x : Int) (h : 0 ≤ x ∧ x < n) : (bools (metL n y)).set x.toNat (.bool true) = bools (metL n (y ++ [x])) := by
  rw [bools_set, metL_set n y x h]
end Go.Abs
end

section
set_option maxRecDepth 100000
set_option maxHeartbeats 2000000
namespace Go.Proofs.Ytpienljnoaendaa.A
open Go Go.Abs Go.RowKit
theorem size_c (v : Value) (y : List Int) (H : AH) (hv : Rd 1 H v y.length y) (hy : y.length ≤ 4294967296) : ACalls Try.prog 55 [v] H (is (.int .i64 y.length) H) := by
  refine acalls_of_awp [.tmp 2] Try.func55 (by kernel_rfl) rfl rfl (Nat.le_of_ble_eq_true rfl) (by kernel_rfl) ?_
  try simp (disch := first | omega | (simp only [ints_length, List.length_replicate, List.length_set, sortedL_length, bools_length, metL_length] <;> omega)) only [Sall,evalOp,init,binA_s,binE,binI,unE,convE,okNil,builtE,gv,TD.isAgg,resV,↓reduceIte,Nat.reduceEqDiff,reduceCtorEq,Nat.reduceAdd,Nat.reduceMul,Nat.reduceLeDiff,quietOp,blindOp,Int.reduceEq,Int.reduceLT,Int.reduceLE,Nat.reduceLT,tiA, builtE, hv.len, is]
theorem evo_nilF (t : T) : evo t (.const .nilFunc) = some .nilFunc := (rfl)
theorem values_c (v : Value) (H : AH) (ho : v.oneCell' = true) :
    ACalls Try.prog 28 [v] H (is (.func (.func 46) #[] #[.pointer (some ⟨H.next, 0, none⟩)]) (H.push ⟨29, true, [v]⟩)) := by
  refine acalls_of_awp [.tmp 2] Try.func28 (by kernel_rfl) rfl rfl (Nat.le_of_ble_eq_true rfl) (by kernel_rfl) ?_
  try simp (disch := first | omega | (simp only [ints_length, List.length_replicate, List.length_set, sortedL_length, bools_length, metL_length] <;> omega)) only [Sall,evalOp,init,binA_s,binE,binI,unE,convE,okNil,builtE,gv,TD.isAgg,resV,↓reduceIte,Nat.reduceEqDiff,reduceCtorEq,Nat.reduceAdd,Nat.reduceMul,Nat.reduceLeDiff,quietOp,blindOp,Int.reduceEq,Int.reduceLT,Int.reduceLE,Nat.reduceLT,tiA, ho, asCells_one ho, evo_nilF, List.mem_cons, List.not_mem_nil, or_false, forall_eq_or_imp, forall_eq, Array.size_empty, is]
theorem isOrder_c (n : Nat) (v : Value) (y : List Int) (H : AH) (hv : Rd 1 H v y.length y) (hy : y.length ≤ 4294967296) :
    ACalls Try.prog 39 [v, .int .i64 n] H (is (.bool (ordB n y)) H) := by
  refine acalls_up rfl (ACalls.wf (by kernel_rfl) fun hs => acalls_of_awp [.tmp 4] Try.func39 (by kernel_rfl) rfl rfl (Nat.le_of_ble_eq_true rfl) (by kernel_rfl) ?_)
  try simp (disch := first | omega | (simp only [ints_length, List.length_replicate, List.length_set, sortedL_length, bools_length, metL_length] <;> omega)) only [Sall,evalOp,init,binA_s,binE,binI,unE,convE,okNil,builtE,gv,TD.isAgg,resV,↓reduceIte,Nat.reduceEqDiff,reduceCtorEq,Nat.reduceAdd,Nat.reduceMul,Nat.reduceLeDiff,quietOp,blindOp,Int.reduceEq,Int.reduceLT,Int.reduceLE,Nat.reduceLT,tiA, true_and]
  refine (values_c v H hv.one).to ?_
  try simp (disch := first | omega | (simp only [ints_length, List.length_replicate, List.length_set, sortedL_length, bools_length, metL_length] <;> omega)) only [Sall,evalOp,init,binA_s,binE,binI,unE,convE,okNil,builtE,gv,TD.isAgg,resV,↓reduceIte,Nat.reduceEqDiff,reduceCtorEq,Nat.reduceAdd,Nat.reduceMul,Nat.reduceLeDiff,quietOp,blindOp,Int.reduceEq,Int.reduceLT,Int.reduceLE,Nat.reduceLT,tiA, true_and]
  have up : Up H.next H (H.push ⟨29, true, [v]⟩) := (Up.refl _ H).push (Nat.le_refl _) _
  have e1 : (H.push ⟨29, true, [v]⟩).row H.next = some ⟨29, true, [v]⟩ := by rw [AH.push_row, if_pos rfl]
  have n1 : (H.push ⟨29, true, [v]⟩).next = H.next + 1 := rfl
  revert up e1 n1
  generalize H.push ⟨29, true, [v]⟩ = H1
  intro up e1 n1
  refine (sorted_c H.next v y H1 e1 (hv.same (up.le hs).row) hy).mono ?_
  rintro u H2 ⟨up2, hf⟩
  have hl2 := sortedL_length y
  have u2 : Up H.next H H2 := up.trans up2 (by omega)
  refine Holds.mp ?_
  try simp (disch := first | omega | (simp only [ints_length, List.length_replicate, List.length_set, sortedL_length, bools_length, metL_length] <;> omega)) only [Sall,evalOp,init,binA_s,binE,binI,unE,convE,okNil,builtE,gv,TD.isAgg,resV,↓reduceIte,Nat.reduceEqDiff,reduceCtorEq,Nat.reduceAdd,Nat.reduceMul,Nat.reduceLeDiff,quietOp,blindOp,Int.reduceEq,Int.reduceLT,Int.reduceLE,Nat.reduceLT,tiA, builtE, hf.rd.len]
  refine awp_loop (fun m t H' => ∃ a : Nat, m = y.length - a ∧ a ≤ y.length ∧ t 13 = .int .i64 a ∧ t 12 = .int .i64 y.length ∧ t 11 = u ∧ t 0 = v ∧ t 1 = .int .i64 n ∧ H' = H2 ∧ (∀ i, i < a → (sortedL y).getD i 0 = (i : Int))) y.length ?_ ?_
  · refine ⟨0, by omega, by omega, ?_⟩
    try simp (disch := first | omega | (simp only [ints_length, List.length_replicate, List.length_set, sortedL_length, bools_length, metL_length] <;> omega)) only [Sall,evalOp,init,binA_s,binE,binI,unE,convE,okNil,builtE,gv,TD.isAgg,resV,↓reduceIte,Nat.reduceEqDiff,reduceCtorEq,Nat.reduceAdd,Nat.reduceMul,Nat.reduceLeDiff,quietOp,blindOp,Int.reduceEq,Int.reduceLT,Int.reduceLE,Nat.reduceLT,tiA, Int.natCast_zero, Nat.not_lt_zero, false_implies]
  · rintro m t H' ⟨a, hm, han, h13, h12, h11, h0, h1, rfl, hall⟩
    try simp (disch := first | omega | (simp only [ints_length, List.length_replicate, List.length_set, sortedL_length, bools_length, metL_length] <;> omega)) only [Sall,evalOp,init,binA_s,binE,binI,unE,convE,okNil,builtE,gv,TD.isAgg,resV,↓reduceIte,Nat.reduceEqDiff,reduceCtorEq,Nat.reduceAdd,Nat.reduceMul,Nat.reduceLeDiff,quietOp,blindOp,Int.reduceEq,Int.reduceLT,Int.reduceLE,Nat.reduceLT,tiA, h13, h12]
    refine condC_dec (fun h => ?_) (fun h => ?_)
    · obtain ⟨i, o, uu, cc, r, rfl, hr, _, hg, _⟩ := hf.rd.get (by omega)
      have g1 := hg a (by omega)
      by_cases hx : (sortedL y).getD a 0 = (a : Int)
      · have e2 : ((sortedL y).getD a 0 != (a : Int)) = false := by rw [hx]; exact bne_self_eq_false _
        try simp (disch := first | omega | (simp only [ints_length, List.length_replicate, List.length_set, sortedL_length, bools_length, metL_length] <;> omega)) only [Sall,evalOp,init,binA_s,binE,binI,unE,convE,okNil,builtE,gv,TD.isAgg,resV,↓reduceIte,Nat.reduceEqDiff,reduceCtorEq,Nat.reduceAdd,Nat.reduceMul,Nat.reduceLeDiff,quietOp,blindOp,Int.reduceEq,Int.reduceLT,Int.reduceLE,Nat.reduceLT,tiA, h13, h12, h11, h0, h1, hr, g1, e2, w64]
        (repeat refine And.intro (by omega) ?_)
        refine ⟨y.length - (a + 1), by omega, a + 1, rfl, by omega, rfl, fun i hi => ?_⟩
        by_cases e : i = a
        · rw [e]; exact hx
        · exact hall i (by omega)
      · have e2 : ((sortedL y).getD a 0 != (a : Int)) = true := bne_iff_ne.2 hx
        try simp (disch := first | omega | (simp only [ints_length, List.length_replicate, List.length_set, sortedL_length, bools_length, metL_length] <;> omega)) only [Sall,evalOp,init,binA_s,binE,binI,unE,convE,okNil,builtE,gv,TD.isAgg,resV,↓reduceIte,Nat.reduceEqDiff,reduceCtorEq,Nat.reduceAdd,Nat.reduceMul,Nat.reduceLeDiff,quietOp,blindOp,Int.reduceEq,Int.reduceLT,Int.reduceLE,Nat.reduceLT,tiA, h13, h12, h11, h0, h1, hr, g1, e2, w64]
        (repeat refine And.intro (by omega) ?_)
        rw [ordB_sorted_bad (by omega) hx]
        exact ⟨rfl, u2⟩
    · try simp (disch := first | omega | (simp only [ints_length, List.length_replicate, List.length_set, sortedL_length, bools_length, metL_length] <;> omega)) only [Sall,evalOp,init,binA_s,binE,binI,unE,convE,okNil,builtE,gv,TD.isAgg,resV,↓reduceIte,Nat.reduceEqDiff,reduceCtorEq,Nat.reduceAdd,Nat.reduceMul,Nat.reduceLeDiff,quietOp,blindOp,Int.reduceEq,Int.reduceLT,Int.reduceLE,Nat.reduceLT,tiA, h0, h1]
      have ha : a = y.length := by omega
      subst ha
      refine (size_c v y H' (hv.same (u2.le hs).row) hy).to ?_
      try simp (disch := first | omega | (simp only [ints_length, List.length_replicate, List.length_set, sortedL_length, bools_length, metL_length] <;> omega)) only [Sall,evalOp,init,binA_s,binE,binI,unE,convE,okNil,builtE,gv,TD.isAgg,resV,↓reduceIte,Nat.reduceEqDiff,reduceCtorEq,Nat.reduceAdd,Nat.reduceMul,Nat.reduceLeDiff,quietOp,blindOp,Int.reduceEq,Int.reduceLT,Int.reduceLE,Nat.reduceLT,tiA, h1]
      rw [ordB_sorted_all hall]
      refine ⟨?_, u2⟩
      by_cases e : y.length = n
      · rw [decide_eq_true e, e]; simp
      · rw [decide_eq_false e]; simp; omega
end Go.Proofs.Ytpienljnoaendaa.A
end

section
set_option maxRecDepth 100000
set_option maxHeartbeats 2000000
namespace Go.Proofs.Ytpienljnoaendaa.A
open Go Go.Abs Go.RowKit
end Go.Proofs.Ytpienljnoaendaa.A
end

section
set_option maxRecDepth 100000
set_option maxHeartbeats 2000000
namespace Go.Proofs.Ytpienljnoaendaa.A
open Go Go.Abs Go.RowKit
theorem Ow.rebase {cv : Value} {nb si : Nat} {H H1 B H' : AH} {L : List Th} (o : Ow B H' L) (up : Up H.next H H1) (k : SrcB cv nb si H1 B) (hsi : H.next ≤ si) : Ow H H' L := by
  obtain ⟨w, hw⟩ := o.own
  have h1 := up.next
  have h2 := k.next
  have h3 := o.next
  refine ⟨o.sc, by omega, fun i hi => by rw [o.low i (by omega), k.row i (by omega), up.row i hi], w, fun j q hj => q.loc H' H' _ _ (fun i hi => ⟨by omega, hi.2⟩) (fun _ _ _ h => h) (hw j q hj)⟩
theorem CodeX.of {cv : Value} {nb : Nat} {H H1 : AH} (h : CodeOk H cv nb) (hs : Sc H) (up : Up H.next H H1) : CodeX cv nb H.next H1 := fun H' hk => by
  rcases h with ⟨q1, q2⟩ | ⟨i, o, u, c, r, q1, q2, q3⟩
  · exact .inl ⟨q1, q2⟩
  · have := hs _ _ q2
    exact .inr ⟨i, o, u, c, r, q1, hk _ _ (by omega) (by rw [up.row i this]; exact q2), q3⟩
theorem CodeOk.up {cv : Value} {nb : Nat} {H H1 : AH} (h : CodeOk H cv nb) (hs : ∀ i r, H.row i = some r → H1.row i = some r) : CodeOk H1 cv nb := by
  rcases h with ⟨q1, q2⟩ | ⟨i, o, u, c, r, q1, q2, q3⟩
  · exact .inl ⟨q1, q2⟩
  · exact .inr ⟨i, o, u, c, r, q1, hs _ _ q2, q3⟩
end Go.Proofs.Ytpienljnoaendaa.A
end

section
set_option maxRecDepth 100000
set_option maxHeartbeats 2000000
namespace Go.Proofs.Ytpienljnoaendaa.A
open Go Go.Abs Go.RowKit
theorem big_c (cv : Value) (nb : Nat) (H : AH) (hc : CodeOk H cv nb) : ACalls Try.prog 4 [cv] H (is (.bool (decide (4096 < (nb : Int)))) H) := by
  refine acalls_of_awp [.tmp 2] Try.func4 (by kernel_rfl) rfl rfl (Nat.le_of_ble_eq_true rfl) (by kernel_rfl) ?_
  have hln := hc.len
  try simp (disch := first | omega | (simp only [L3] <;> omega)) only [Sall,evalOp,init,binA_s,binE,binI,unE,convE,okNil,builtE,gv,TD.isAgg,resV,↓reduceIte,Nat.reduceEqDiff,reduceCtorEq,Nat.reduceAdd,Nat.reduceMul,Nat.reduceLeDiff,quietOp,blindOp,Int.reduceEq,Int.reduceLT,Int.reduceLE,Nat.reduceLT,tiA,tiXA, hln, builtE]
  exact ⟨rfl, rfl⟩
theorem likeInts_c (a b : Value) (n : Nat) (l : List Int) (H : AH) (hn : n ≤ 4294967296) (ha : Rd 1 H a n l) (hb : Rd 1 H b n l) : ACalls Try.prog 8 [a, b] H (is (.bool true) H) := by
  refine acalls_of_awp [.tmp 4] Try.func8 (by kernel_rfl) rfl rfl (Nat.le_of_ble_eq_true rfl) (by kernel_rfl) ?_
  have la := ha.len
  have lb := hb.len
  try simp (disch := first | omega | (simp only [L3] <;> omega)) only [Sall,evalOp,init,binA_s,binE,binI,unE,convE,okNil,builtE,gv,TD.isAgg,resV,↓reduceIte,Nat.reduceEqDiff,reduceCtorEq,Nat.reduceAdd,Nat.reduceMul,Nat.reduceLeDiff,quietOp,blindOp,Int.reduceEq,Int.reduceLT,Int.reduceLE,Nat.reduceLT,tiA,tiXA, la, lb, builtE, bne_self_eq_false]
  refine awp_loop (fun z t H' => H' = H ∧ ∃ j : Nat, z = n - j ∧ j ≤ n ∧ t 5 = .int .i64 j ∧ t 0 = a ∧ t 1 = b) n ?_ ?_
  · refine ⟨rfl, 0, by omega, by omega, ?_⟩
    try simp (disch := first | omega | (simp only [L3] <;> omega)) only [Sall,evalOp,init,binA_s,binE,binI,unE,convE,okNil,builtE,gv,TD.isAgg,resV,↓reduceIte,Nat.reduceEqDiff,reduceCtorEq,Nat.reduceAdd,Nat.reduceMul,Nat.reduceLeDiff,quietOp,blindOp,Int.reduceEq,Int.reduceLT,Int.reduceLE,Nat.reduceLT,tiA,tiXA, Int.natCast_zero]
  · rintro z t H' ⟨rfl, j, hz, hj, h5, h0, h1⟩
    try simp (disch := first | omega | (simp only [L3] <;> omega)) only [Sall,evalOp,init,binA_s,binE,binI,unE,convE,okNil,builtE,gv,TD.isAgg,resV,↓reduceIte,Nat.reduceEqDiff,reduceCtorEq,Nat.reduceAdd,Nat.reduceMul,Nat.reduceLeDiff,quietOp,blindOp,Int.reduceEq,Int.reduceLT,Int.reduceLE,Nat.reduceLT,tiA,tiXA, h5, h0, la, builtE]
    refine condC_dec (fun hh => ?_) (fun hh => ?_)
    · obtain ⟨ai, ao, au, ac, ar, rfl, a1, a2, a3, a4⟩ := ha.get (by omega)
      obtain ⟨bi, bo, bu, bc, br, rfl, b1, b2, b3, b4⟩ := hb.get (by omega)
      have a5 := a3 j (by omega)
      have b5 := b3 j (by omega)
      try simp (disch := first | omega | (simp only [L3] <;> omega)) only [Sall,evalOp,init,binA_s,binE,binI,unE,convE,okNil,builtE,gv,TD.isAgg,resV,↓reduceIte,Nat.reduceEqDiff,reduceCtorEq,Nat.reduceAdd,Nat.reduceMul,Nat.reduceLeDiff,quietOp,blindOp,Int.reduceEq,Int.reduceLT,Int.reduceLE,Nat.reduceLT,tiA,tiXA, h5, h0, h1]
      refine draw_id (by kernel_rfl) (by kernel_rfl) ?_
      try simp (disch := first | omega | (simp only [L3] <;> omega)) only [Sall,evalOp,init,binA_s,binE,binI,unE,convE,okNil,builtE,gv,TD.isAgg,resV,↓reduceIte,Nat.reduceEqDiff,reduceCtorEq,Nat.reduceAdd,Nat.reduceMul,Nat.reduceLeDiff,quietOp,blindOp,Int.reduceEq,Int.reduceLT,Int.reduceLE,Nat.reduceLT,tiA,tiXA, h5, h0, h1, a1, a5, b1, b5, bne_self_eq_false, w64]
      (repeat refine And.intro (by omega) ?_)
      try simp (disch := first | omega | (simp only [L3] <;> omega)) only [Sall,evalOp,init,binA_s,binE,binI,unE,convE,okNil,builtE,gv,TD.isAgg,resV,↓reduceIte,Nat.reduceEqDiff,reduceCtorEq,Nat.reduceAdd,Nat.reduceMul,Nat.reduceLeDiff,quietOp,blindOp,Int.reduceEq,Int.reduceLT,Int.reduceLE,Nat.reduceLT,tiA,tiXA, h5, h0, h1, a1, a5, b1, b5, bne_self_eq_false, w64]
      exact ⟨n - (j + 1), by omega, j + 1, rfl, by omega, rfl⟩
    · try simp (disch := first | omega | (simp only [L3] <;> omega)) only [Sall,evalOp,init,binA_s,binE,binI,unE,convE,okNil,builtE,gv,TD.isAgg,resV,↓reduceIte,Nat.reduceEqDiff,reduceCtorEq,Nat.reduceAdd,Nat.reduceMul,Nat.reduceLeDiff,quietOp,blindOp,Int.reduceEq,Int.reduceLT,Int.reduceLE,Nat.reduceLT,tiA,tiXA, true_and]
      exact ⟨rfl, rfl⟩
structure Dr (cv : Value) (nb : Nat) (H H1 H' : AH) (L : List Th) : Prop where
  ex : ∃ B, SrcB cv nb H.next H1 B ∧ Ow B H' L
section
variable {cv : Value} {nb : Nat} {H H1 H' : AH} {L : List Th}
theorem Dr.src (h : Dr cv nb H H1 H' L) (hn : H.next < H1.next) : Src cv nb H.next H' := by
  obtain ⟨B, b, o⟩ := h.ex; exact Ow.srcAt o b hn
theorem Dr.code (h : Dr cv nb H H1 H' L) (hx : CodeX cv nb H.next H1) (sc : Sc H1) : CodeX cv nb H.next H' := by
  obtain ⟨B, b, o⟩ := h.ex; exact hx.later fun i r hi hr => Ow.oldX o b sc i r hi hr
theorem Dr.sc (h : Dr cv nb H H1 H' L) : Sc H' := by obtain ⟨B, b, o⟩ := h.ex; exact o.sc
theorem Dr.next (h : Dr cv nb H H1 H' L) (hn : H.next < H1.next) {H2 : AH} (k : SrcB cv nb H.next H' H2) : Dr cv nb H H1 H2 L := by
  obtain ⟨B, b, o⟩ := h.ex
  obtain ⟨B2, b2, o2⟩ := Ow.src o (by rw [b.next]; exact hn) k
  exact ⟨B2, b.trans b2, o2⟩
theorem Dr.call (h : Dr cv nb H H1 H' L) (hn : H.next < H1.next) {H2 H3 : AH} {M : List Th} (k : SrcB cv nb H.next H' H2) (o3 : Ow H2 H3 M) : Dr cv nb H H1 H3 (L ++ M) := by
  obtain ⟨B, b, o⟩ := h.ex
  obtain ⟨B2, b2, o2⟩ := Ow.srcCall o (by rw [b.next]; exact hn) k o3
  exact ⟨B2, b.trans b2, o2⟩
theorem Dr.calls (h : Dr cv nb H H1 H' L) {H3 : AH} {M : List Th} (o3 : Ow H' H3 M) : Dr cv nb H H1 H3 (L ++ M) := by
  obtain ⟨B, b, o⟩ := h.ex
  exact ⟨B, b, o.call o3⟩
theorem Dr.map (h : Dr cv nb H H1 H' L) {H2 : AH} {M : List Th} (f : ∀ B, Ow B H' L → Ow B H2 M) : Dr cv nb H H1 H2 M := by
  obtain ⟨B, b, o⟩ := h.ex
  exact ⟨B, b, f B o⟩
theorem Dr.fin (h : Dr cv nb H H1 H' L) (up : Up H.next H H1) : Ow H H' L := by
  obtain ⟨B, b, o⟩ := h.ex
  exact Ow.rebase o up b (Nat.le_refl _)
end
end Go.Proofs.Ytpienljnoaendaa.A
end

section
set_option maxRecDepth 100000
set_option maxHeartbeats 2000000
namespace Go.Proofs.Ytpienljnoaendaa.A
open Go Go.Abs Go.RowKit
theorem condC_cut {P : Program} {A : Code} {Q : Exit → T → AH → Prop} {N : T → AH → Prop} {t : T} {H : AH} {b : Bool} (M : T → AH → Prop) (hf : b = false → M t H) (ht : b = true → awp P A (seqQ M Q) t H) (hN : ∀ t H, M t H → N t H) :
    condC (some (.bool b)) (awp P A (seqQ N Q) t H) (N t H) := by
  cases b with
  | false => exact hN _ _ (hf rfl)
  | true => exact awp_mono A _ _ t H (seqQ_mono hN fun _ _ _ h => h) (ht rfl)
end Go.Proofs.Ytpienljnoaendaa.A
end

section
set_option maxRecDepth 100000
set_option maxHeartbeats 2000000
namespace Go.Proofs.Ytpienljnoaendaa.A
open Go Go.Abs Go.RowKit
end Go.Proofs.Ytpienljnoaendaa.A
end

section
set_option maxRecDepth 100000
set_option maxHeartbeats 2000000
namespace Go.Proofs.Ytpienljnoaendaa.A
open Go Go.Abs Go.RowKit
end Go.Proofs.Ytpienljnoaendaa.A
end

section
set_option maxRecDepth 100000
set_option maxHeartbeats 2000000
namespace Go.Proofs.Ytpienljnoaendaa.A
open Go Go.Abs Go.RowKit
end Go.Proofs.Ytpienljnoaendaa.A
end

section
namespace Go.Abs
def oddUp (n : Nat) : Nat := n - 1 + n % 2
def cb (m r x : Nat) : Int := Int.tmod (2 * (r : Int) - (x : Int) + (m : Int)) (m : Int)
def cmid (n r k : Nat) : List Int := (List.range 14).map fun x => if x < oddUp n then (if x < k ∨ cb (oddUp n) r x < k then cb (oddUp n) r x else x) else if x < n then x else 0
def cset (n r k : Nat) : List Int := (List.range 14).map fun x => if x < oddUp n then (if x < k then cb (oddUp n) r x else x) else if x < n then x else 0
def cround (n r : Nat) : List Int := if n % 2 = 0 then ((cmid n r (oddUp n)).set (n - 1) r).set r ((n : Int) - 1) else cmid n r (oddUp n)
theorem cmid_length (n r k : Nat) : (cmid n r k).length = 14 := by simp [cmid]
theorem cset_length (n r k : Nat) : (cset n r k).length = 14 := by simp [cset]
theorem cround_length (n r : Nat) : (cround n r).length = 14 := by unfold cround; split <;> simp [cmid_length]
end Go.Abs
end

section
set_option maxRecDepth 100000
namespace Go.Proofs.Ytpienljnoaendaa.A
open Go Go.Abs Go.RowKit
def freeL (n : Int) : List Int := (List.range 14).map fun (a : Nat) => if (a : Int) < n then (a : Int) else 0
theorem freeL_length (n : Int) : (freeL n).length = 14 := by simp [freeL]
end Go.Proofs.Ytpienljnoaendaa.A
end

section
set_option maxRecDepth 100000
namespace Go.Proofs.Ytpienljnoaendaa.A
open Go Go.Abs Go.RowKit
end Go.Proofs.Ytpienljnoaendaa.A
end

section
set_option maxRecDepth 100000
namespace Go.Proofs.Ytpienljnoaendaa.A
open Go Go.Abs Go.RowKit
end Go.Proofs.Ytpienljnoaendaa.A
end

section
set_option maxRecDepth 100000
namespace Go.Proofs.Ytpienljnoaendaa.A
open Go Go.Abs Go.RowKit
end Go.Proofs.Ytpienljnoaendaa.A
end

section
set_option maxRecDepth 100000
namespace Go.Proofs.Ytpienljnoaendaa.A
open Go Go.Abs Go.RowKit
end Go.Proofs.Ytpienljnoaendaa.A
end

section
set_option maxRecDepth 100000
namespace Go.Proofs.Ytpienljnoaendaa.A
open Go Go.Abs Go.RowKit
end Go.Proofs.Ytpienljnoaendaa.A
end

section
namespace Go.Abs
def colL (ll : List (List Int)) (i c : Nat) : List Int := (List.range c).map fun k => (ll.getD k []).getD i 0
theorem colL_length (ll : List (List Int)) (i c : Nat) : (colL ll i c).length = c := by simp [colL]
end Go.Abs
end

section
set_option maxRecDepth 100000
set_option maxHeartbeats 2000000
namespace Go.Proofs.Ytpienljnoaendaa.A
open Go Go.Abs Go.RowKit
theorem indexFuncLL_c (g : FuncId) (cap : List Value) (p : List Int → Bool) (x : Value) (ll : List (List Int)) (H : AH) (hx : Rd2 1 H x ll) (hl : ll.length ≤ 4294967296)
    (hp : ∀ (y : Value) (r : List Int), r ∈ ll → Rd 1 H y r.length r → ACalls Try.prog g (y :: cap) H (is (.bool (p r)) H)) :
    ACalls Try.prog 54 [x, .func (.func g) #[] cap.toArray] H (is (.int .i64 (firstI (fun i => p (ll.getD i [])) ll.length)) H) := by
  refine acalls_of_awp [.tmp 4] Try.func54 (by kernel_rfl) rfl rfl (Nat.le_of_ble_eq_true rfl) (by kernel_rfl) ?_
  try simp (disch := first | omega | (simp only [ints_length, List.length_replicate, List.length_set, colL_length] <;> omega)) only [Sall,evalOp,init,binA_s,binE,binI,unE,convE,okNil,builtE,gv,TD.isAgg,resV,↓reduceIte,Nat.reduceEqDiff,reduceCtorEq,Nat.reduceAdd,Nat.reduceMul,Nat.reduceLeDiff,quietOp,blindOp,Int.reduceEq,Int.reduceLT,Int.reduceLE,Nat.reduceLT,tiA, builtE, hx.len]
  refine awp_loop (fun m t H' => ∃ a : Nat, m = ll.length - a ∧ a ≤ ll.length ∧ t 8 = .int .i64 a ∧ t 7 = .int .i64 ll.length ∧ t 0 = x ∧ t 1 = .func (.func g) #[] cap.toArray ∧ H' = H ∧ (∀ i, i < a → p (ll.getD i []) = false)) ll.length ?_ ?_
  · refine ⟨0, by omega, by omega, ?_⟩
    try simp (disch := first | omega | (simp only [ints_length, List.length_replicate, List.length_set, colL_length] <;> omega)) only [Sall,evalOp,init,binA_s,binE,binI,unE,convE,okNil,builtE,gv,TD.isAgg,resV,↓reduceIte,Nat.reduceEqDiff,reduceCtorEq,Nat.reduceAdd,Nat.reduceMul,Nat.reduceLeDiff,quietOp,blindOp,Int.reduceEq,Int.reduceLT,Int.reduceLE,Nat.reduceLT,tiA, Int.natCast_zero, Nat.not_lt_zero, false_implies]
  · rintro m t H' ⟨a, hm, h14, h8, h7, h0, h1, rfl, hall⟩
    try simp (disch := first | omega | (simp only [ints_length, List.length_replicate, List.length_set, colL_length] <;> omega)) only [Sall,evalOp,init,binA_s,binE,binI,unE,convE,okNil,builtE,gv,TD.isAgg,resV,↓reduceIte,Nat.reduceEqDiff,reduceCtorEq,Nat.reduceAdd,Nat.reduceMul,Nat.reduceLeDiff,quietOp,blindOp,Int.reduceEq,Int.reduceLT,Int.reduceLE,Nat.reduceLT,tiA, h8, h7]
    refine condC_dec (fun h => ?_) (fun h => ?_)
    · obtain ⟨i, o, u, c, r, y, my, rfl, hr, hy, hsx, hok⟩ := hx.get (j := a) (by omega)
      have hmm := hsx.lenK1
      rw [hmm] at hsx
      try simp (disch := first | omega | (simp only [ints_length, List.length_replicate, List.length_set, colL_length] <;> omega)) only [Sall,evalOp,init,binA_s,binE,binI,unE,convE,okNil,builtE,gv,TD.isAgg,resV,↓reduceIte,Nat.reduceEqDiff,reduceCtorEq,Nat.reduceAdd,Nat.reduceMul,Nat.reduceLeDiff,quietOp,blindOp,Int.reduceEq,Int.reduceLT,Int.reduceLE,Nat.reduceLT,tiA, h8, h7, h0, h1, hr, hy, hok]
      (repeat refine And.intro (by omega) ?_)
      refine (hp y _ (getD_mem (ll := ll) (a := a) (by omega)) hsx).to ?_
      cases hb : p (ll.getD a []) with
      | true =>
        try simp (disch := first | omega | (simp only [ints_length, List.length_replicate, List.length_set, colL_length] <;> omega)) only [Sall,evalOp,init,binA_s,binE,binI,unE,convE,okNil,builtE,gv,TD.isAgg,resV,↓reduceIte,Nat.reduceEqDiff,reduceCtorEq,Nat.reduceAdd,Nat.reduceMul,Nat.reduceLeDiff,quietOp,blindOp,Int.reduceEq,Int.reduceLT,Int.reduceLE,Nat.reduceLT,tiA, h8, h7, h0, h1, is]
        rw [firstI_at (p := fun i => p (ll.getD i [])) (by omega) hb hall]
      | false =>
        try simp (disch := first | omega | (simp only [ints_length, List.length_replicate, List.length_set, colL_length] <;> omega)) only [Sall,evalOp,init,binA_s,binE,binI,unE,convE,okNil,builtE,gv,TD.isAgg,resV,↓reduceIte,Nat.reduceEqDiff,reduceCtorEq,Nat.reduceAdd,Nat.reduceMul,Nat.reduceLeDiff,quietOp,blindOp,Int.reduceEq,Int.reduceLT,Int.reduceLE,Nat.reduceLT,tiA, h8, h7, h0, h1, w64]
        refine ⟨ll.length - (a + 1), by omega, a + 1, rfl, by omega, by omega, fun x hx => ?_⟩
        by_cases e : x = a
        · rw [e]; exact hb
        · exact hall x (by omega)
    · try simp (disch := first | omega | (simp only [ints_length, List.length_replicate, List.length_set, colL_length] <;> omega)) only [Sall,evalOp,init,binA_s,binE,binI,unE,convE,okNil,builtE,gv,TD.isAgg,resV,↓reduceIte,Nat.reduceEqDiff,reduceCtorEq,Nat.reduceAdd,Nat.reduceMul,Nat.reduceLeDiff,quietOp,blindOp,Int.reduceEq,Int.reduceLT,Int.reduceLE,Nat.reduceLT,tiA, is]
      rw [firstI_none (p := fun i => p (ll.getD i [])) fun x hx => hall x (by omega)]
theorem containsFuncLL_c (g : FuncId) (cap : List Value) (p : List Int → Bool) (x : Value) (ll : List (List Int)) (H : AH) (hx : Rd2 1 H x ll) (hl : ll.length ≤ 4294967296)
    (hp : ∀ (y : Value) (r : List Int), r ∈ ll → Rd 1 H y r.length r → ACalls Try.prog g (y :: cap) H (is (.bool (p r)) H)) :
    ACalls Try.prog 37 [x, .func (.func g) #[] cap.toArray] H (is (.bool ((List.range ll.length).any fun i => p (ll.getD i []))) H) := by
  refine acalls_of_awp [.tmp 4] Try.func37 (by kernel_rfl) rfl rfl (Nat.le_of_ble_eq_true rfl) (by kernel_rfl) ?_
  try simp (disch := first | omega | (simp only [ints_length, List.length_replicate, List.length_set, colL_length] <;> omega)) only [Sall,evalOp,init,binA_s,binE,binI,unE,convE,okNil,builtE,gv,TD.isAgg,resV,↓reduceIte,Nat.reduceEqDiff,reduceCtorEq,Nat.reduceAdd,Nat.reduceMul,Nat.reduceLeDiff,quietOp,blindOp,Int.reduceEq,Int.reduceLT,Int.reduceLE,Nat.reduceLT,tiA, true_and]
  refine (indexFuncLL_c g cap p x ll H hx hl hp).to ?_
  try simp (disch := first | omega | (simp only [ints_length, List.length_replicate, List.length_set, colL_length] <;> omega)) only [Sall,evalOp,init,binA_s,binE,binI,unE,convE,okNil,builtE,gv,TD.isAgg,resV,↓reduceIte,Nat.reduceEqDiff,reduceCtorEq,Nat.reduceAdd,Nat.reduceMul,Nat.reduceLeDiff,quietOp,blindOp,Int.reduceEq,Int.reduceLT,Int.reduceLE,Nat.reduceLT,tiA, is, firstI_any]
theorem sizeLL_c (x : Value) (ll : List (List Int)) (H : AH) (hx : Rd2 1 H x ll) (hl : ll.length ≤ 4294967296) : ACalls Try.prog 43 [x] H (is (.int .i64 ll.length) H) := by
  refine acalls_of_awp [.tmp 2] Try.func43 (by kernel_rfl) rfl rfl (Nat.le_of_ble_eq_true rfl) (by kernel_rfl) ?_
  try simp (disch := first | omega | (simp only [ints_length, List.length_replicate, List.length_set, colL_length] <;> omega)) only [Sall,evalOp,init,binA_s,binE,binI,unE,convE,okNil,builtE,gv,TD.isAgg,resV,↓reduceIte,Nat.reduceEqDiff,reduceCtorEq,Nat.reduceAdd,Nat.reduceMul,Nat.reduceLeDiff,quietOp,blindOp,Int.reduceEq,Int.reduceLT,Int.reduceLE,Nat.reduceLT,tiA, builtE, hx.len, is]
end Go.Proofs.Ytpienljnoaendaa.A
end

section
namespace Go.Abs
end Go.Abs
end

section
namespace Go.Abs
def ixN (m a b : Nat) : Int := ((a * m + b : Nat) : Int)
theorem ix_inj {m a b c d : Nat} (hb : b < m) (hd : d < m) (h : ixN m a b = ixN m c d) : a = c ∧ b = d := by
  have h0 : a * m + b = c * m + d := by unfold ixN at h; omega
  have h1 : (a * m + b) / m = (c * m + d) / m := by rw [h0]
  rw [Nat.mul_comm a, Nat.mul_comm c, Nat.mul_add_div (by omega), Nat.mul_add_div (by omega), Nat.div_eq_of_lt hb, Nat.div_eq_of_lt hd] at h1
  have e : a = c := by omega
  subst e
  exact ⟨rfl, by omega⟩
def cntMx (m : Nat) (I : List Int) : List (List Int) := (List.range m).map fun a => (List.range m).map fun b => ((I.count (ixN m a b) : Nat) : Int)
theorem cntMx_sq (m : Nat) (I : List Int) : SqM m (cntMx m I) := by
  refine ⟨by simp [cntMx], fun j hj => ?_⟩
  unfold cntMx
  rw [List.getD_eq_getElem?_getD, List.getElem?_map, List.getElem?_range hj]
  simp
theorem cntMx_nil (m : Nat) : cntMx m [] = zeroM m := by
  unfold cntMx zeroM
  refine List.eq_replicate_iff.2 ⟨by simp, fun r hr => ?_⟩
  obtain ⟨a, _, rfl⟩ := List.mem_map.1 hr
  exact List.eq_replicate_iff.2 ⟨by simp, by intro b hb; obtain ⟨c, _, rfl⟩ := List.mem_map.1 hb; rfl⟩
theorem cntMx_row (m : Nat) (I : List Int) (a : Nat) (ha : a < m) : (cntMx m I).getD a [] = (List.range m).map fun b => ((I.count (ixN m a b) : Nat) : Int) := by
  unfold cntMx
  rw [List.getD_eq_getElem?_getD, List.getElem?_map, List.getElem?_range ha]
  rfl
theorem cntMx_at (m : Nat) (I : List Int) (a b : Nat) (ha : a < m) (hb : b < m) : ((cntMx m I).getD a []).getD b 0 = ((I.count (ixN m a b) : Nat) : Int) := by
  rw [cntMx_row m I a ha, List.getD_eq_getElem?_getD, List.getElem?_map, List.getElem?_range hb]
  rfl
theorem cntMx_inc (m : Nat) (I : List Int) (x y : Nat) (hx : x < m) (hy : y < m) (hI : I.length ≤ 1000000) : incM (cntMx m I) x y = cntMx m (I ++ [ixN m x y]) := by
  have hsq := cntMx_sq m I
  unfold incM
  rw [Int.toNat_natCast]
  apply List.ext_getElem?
  intro a
  rw [List.getElem?_set, hsq.1]
  by_cases ha : a < m
  · have e1 : (cntMx m (I ++ [ixN m x y]))[a]? = some ((List.range m).map fun b => (((I ++ [ixN m x y]).count (ixN m a b) : Nat) : Int)) := by
      unfold cntMx; rw [List.getElem?_map, List.getElem?_range ha]; rfl
    have e2 : (cntMx m I)[a]? = some ((List.range m).map fun b => ((I.count (ixN m a b) : Nat) : Int)) := by
      unfold cntMx; rw [List.getElem?_map, List.getElem?_range ha]; rfl
    rw [e1]
    by_cases e : x = a
    · subst e
      rw [if_pos rfl, if_pos hx, cntMx_row m I x hx]
      congr 1
      unfold incR
      rw [Int.toNat_natCast]
      apply List.ext_getElem?
      intro b
      rw [List.getElem?_set, List.length_map, List.length_range, List.getElem?_map, List.getElem?_map]
      by_cases hb : b < m
      · rw [List.getElem?_range hb]
        simp only [Option.map_some]
        rw [List.count_append, List.count_singleton]
        by_cases e3 : y = b
        · subst e3
          rw [if_pos rfl, if_pos hy, List.getD_eq_getElem?_getD, List.getElem?_map, List.getElem?_range hy]
          simp only [Option.map_some, Option.getD_some, beq_self_eq_true, if_true]
          have hc := List.count_le_length (a := ixN m x y) (l := I)
          have w : IntKind.i64.wrap (((I.count (ixN m x y) : Nat) : Int) + 1) = ((I.count (ixN m x y) : Nat) : Int) + 1 := w64 (by omega)
          rw [w]; congr 1
        · rw [if_neg e3]
          have : (ixN m x y == ixN m x b) = false := by
            rw [beq_eq_false_iff_ne]; intro h; exact e3 (ix_inj hy hb h).2
          rw [this]; simp
      · rw [if_neg (by omega), List.getElem?_eq_none (by simpa using hb)]; rfl
    · rw [if_neg e, e2]
      congr 1
      apply List.map_congr_left
      intro b hb
      have hb' : b < m := by simpa using hb
      rw [List.count_append, List.count_singleton]
      have : (ixN m x y == ixN m a b) = false := by
        rw [beq_eq_false_iff_ne]; intro h; exact e (ix_inj hy hb' h).1
      rw [this]; simp
  · rw [if_neg (by omega), List.getElem?_eq_none (by rw [hsq.1]; omega), List.getElem?_eq_none (by rw [(cntMx_sq m _).1]; omega)]
/-! ### Neighbours -/
end Go.Abs
end

section
namespace Go.Abs
/-! ### Tables -/
def qd (l : List Int) (t j : Nat) : Nat := (l.getD (4 * t + j) 0).toNat
def evW (n : Nat) (q : Nat → Nat) (ws : List (Nat × Nat)) : List Int := ws.flatMap fun w => [ixN n (q w.1) (q w.2), ixN n (q w.2) (q w.1)]
def evR (n : Nat) (ws : List (Nat × Nat)) (l : List Int) (c : Nat) : List Int := (List.range c).flatMap fun t => evW n (qd l t) ws
def evA (n : Nat) (ws : List (Nat × Nat)) (R : List (List Int)) (k : Nat) : List Int := (List.range k).flatMap fun i => evR n ws (R.getD i []) ((R.getD i []).length / 4)
def tabM (n : Nat) (ws : List (Nat × Nat)) (R : List (List Int)) : List (List Int) := cntMx n (evA n ws R R.length)
theorem cntMx_perm {m : Nat} {I J : List Int} (h : I.Perm J) : cntMx m I = cntMx m J := by
  unfold cntMx
  congr 1; funext a; congr 1; funext b
  rw [h.count_eq]
/-! ### Evenings made from a base round -/
def mdX (m i : Nat) (x : Int) : Int := if x < m then (x + i) % m else x
def mdL (m i : Nat) (y : List Int) : List Int := y.map (mdX m i)
def madeL (m : Nat) (y : List Int) (k : Nat) : List (List Int) := (List.range k).map fun i => mdL m i y
theorem mdL_length (m i : Nat) (y : List Int) : (mdL m i y).length = y.length := by simp [mdL]
theorem madeL_length (m : Nat) (y : List Int) (k : Nat) : (madeL m y k).length = k := by simp [madeL]
theorem getD_ne {l : List Int} (h : l.Nodup) {i j : Nat} (hi : i < l.length) (hj : j < l.length) (hij : i ≠ j) : l.getD i 0 ≠ l.getD j 0 := by
  rw [List.getD_eq_getElem?_getD, List.getD_eq_getElem?_getD, List.getElem?_eq_getElem hi, List.getElem?_eq_getElem hj]
  intro e
  exact hij ((List.getElem_inj h).1 e)
def wP : List (Nat × Nat) := [(0, 1), (2, 3)]
end Go.Abs
end
