/- The small logic, eighth text: how contracts are joined, loops, answers that leave the heap as it was, lists of integers in cells. No program is named here. And what follows. -/
import Derived.Test.YtemgclojolmhbaaGreatM1
import Derived.Test.YtemgclojolmhbaaGreatProg
import Derived.KernelRfl
import Derived.ChangeArms
import Derived.OpenShut
import Derived.DataReads
import Derived.Lib.SlicesCompact
set_option linter.unusedSimpArgs false
set_option linter.unusedVariables false
section
namespace Go.Abs
open Go Go.RowKit
def is (v0 : Value) (H0 : AH) (v : Value) (H : AH) : Prop := v = v0 ∧ H = H0
theorem ACalls.mono {P : Program} {f : FuncId} {args : List Value} {H : AH} {R R' : Value → AH → Prop} (h : ACalls P f args H R) (k : ∀ v H', R v H' → R' v H') : ACalls P f args H R' := by
  refine ⟨h.1, fun base ρ w args' hR hL => (h.2 base ρ w args' hR hL).mono ?_⟩
  rintro e w' ⟨v', v, H', ρ', rfl, hv, r⟩
  exact ⟨v', v, H', ρ', rfl, k _ _ hv, r⟩
theorem ACalls.to {P : Program} {f : FuncId} {args : List Value} {H H0 : AH} {v0 : Value} {R : Value → AH → Prop} (h : ACalls P f args H (is v0 H0)) (k : R v0 H0) : ACalls P f args H R :=
  h.mono fun v H' hh => by rw [hh.1, hh.2]; exact k
theorem ACalls.fin {P : Program} {f : FuncId} {args : List Value} {H : AH} {v0 : Value} {X : AH → Prop} {R : Value → AH → Prop} (h : ACalls P f args H (fun v H' => v = v0 ∧ X H')) (k : ∀ H', X H' → R v0 H') : ACalls P f args H R :=
  h.mono fun v H' hh => by obtain ⟨rfl, hx⟩ := hh; exact k _ hx
theorem ACalls.ex {P : Program} {f : FuncId} {args : List Value} {H : AH} {α : Type} {g : α → Value} {X : α → AH → Prop} {R : Value → AH → Prop} (h : ACalls P f args H (fun v H' => ∃ u, v = g u ∧ X u H')) (k : ∀ u H', X u H' → R (g u) H') : ACalls P f args H R :=
  h.mono fun v H' hh => by obtain ⟨u, rfl, hx⟩ := hh; exact k _ _ hx
theorem ACalls.wf {P : Program} {f : FuncId} {args : List Value} {H : AH} {R : Value → AH → Prop} (hc : zeB P f = true) (h : (∀ i r, H.row i = some r → i < H.next) → ACalls P f args H R) : ACalls P f args H R :=
  ⟨hc, fun base ρ w args' hR hL => (h hR.scope).2 base ρ w args' hR hL⟩
/-! ### Going back to the heap of the call -/
theorem V1.back {ρ ρ' : Nat → Nat} {nx nx' : Nat} {w w' : World} {v u : Value} (h : V1 ρ nx w v u) : ∀ {v'}, V1 ρ' nx' w' v v' → V1 ρ' nx w' v v' := by
  induction h with
  | scal v h => intro v' k; cases k with
    | scal _ h => exact .scal _ h
    | ptr i o _ => simp [Abs.scal] at h
    | sle i o n c _ => simp [Abs.scal] at h
    | slu i o n c e o' c' _ _ _ => simp [Abs.scal] at h
    | func fn xs ys _ _ => simp [Abs.scal] at h
    | map i _ => simp [Abs.scal] at h
  | ptr i o h => intro v' k; cases k with
    | scal _ h => simp [Abs.scal] at h
    | ptr i o _ => exact .ptr i o h
  | sle i o n c h => intro v' k; cases k with
    | scal _ h => simp [Abs.scal] at h
    | sle i o n c _ => exact .sle i o n c h
  | slu i o n c e o' c' h hn hr => intro v' k; cases k with
    | scal _ h => simp [Abs.scal] at h
    | slu _ _ _ _ _ o2 c2 _ hn2 hr2 => exact .slu i o n c e o2 c2 h hn2 hr2
  | func fn xs ys hl h ih => intro v' k; cases k with
    | scal _ h => simp [Abs.scal] at h
    | func _ _ zs hl2 h2 =>
      refine .func fn xs zs hl2 fun j x z hx hz => ?_
      have hj : j < xs.size := (Array.getElem?_eq_some_iff.1 hx).1
      obtain ⟨y, hy⟩ : ∃ y, ys[j]? = some y := ⟨_, Array.getElem?_eq_getElem (by omega)⟩
      exact ih j x y hx hy (h2 j x z hx hz)
  | map i h => intro v' k; cases k with
    | scal _ h => simp [Abs.scal] at h
    | map _ _ => exact .map i h
theorem L1.back {ρ ρ' : Nat → Nat} {nx nx' : Nat} {w w' : World} {a b b' : List Value} (h : L1 ρ nx w a b) (k : L1 ρ' nx' w' a b') : L1 ρ' nx w' a b' := by
  refine ⟨k.1, fun j x y hx hy => ?_⟩
  obtain ⟨z, hz, hv⟩ := h.get hx
  exact hv.back (k.2 j x y hx hy)
theorem Rel.back {base : Nat} {ρ ρ' : Nat → Nat} {H H' : AH} {w w' : World} (R : Rel base ρ H w) (R' : Rel base ρ' H' w') (hle : LE H H') : Rel base ρ' H w' := by
  refine ⟨R.scope, fun i r hr hb => ?_, fun i r hr hb => ?_, fun i j r s hr hs => R'.inj i j r s (hle.row _ _ hr) (hle.row _ _ hs), R'.sz⟩
  · obtain ⟨h1, h2⟩ := R'.ro i r (hle.row _ _ hr) hb
    refine ⟨h1, fun j v hv ho => ?_⟩
    obtain ⟨v', hc, hV⟩ := h2 j v hv ho
    obtain ⟨_, k2⟩ := R.ro i r hr hb
    obtain ⟨u, _, hU⟩ := k2 j v hv ho
    exact ⟨v', hc, hU.back hV⟩
  · obtain ⟨h1, cs, hc, hL⟩ := R'.rwr i r (hle.row _ _ hr) hb
    obtain ⟨_, cs0, _, hL0⟩ := R.rwr i r hr hb
    exact ⟨h1, cs, hc, hL0.back hL⟩
def flat : Value → Bool
  | .agg xs => xs.all scal
  | .tuple xs => xs.all fun v => match v with | .agg ys => ys.all scal | v => scal v
  | v => scal v
theorem VR.flat {ρ : Nat → Nat} {nx nx' : Nat} {w : World} {v v' : Value} (hf : Abs.flat v = true) (h : VR ρ nx w v v') : VR ρ nx' w v v' := by
  have one : ∀ u u', Abs.scal u = true → V1 ρ nx w u u' → V1 ρ nx' w u u' := fun u u' hs k => (V1.scal (ρ := ρ) (nx := nx') (w := w) u hs).back k
  have agg : ∀ xs ys : Array Value, xs.all Abs.scal = true → xs.size = ys.size → (∀ (j : Nat) (x y : Value), xs[j]? = some x → ys[j]? = some y → V1 ρ nx w x y) → VR ρ nx' w (.agg xs) (.agg ys) := by
    intro xs ys ha hl hv
    refine .agg xs ys hl fun j x y hx hy => one _ _ ?_ (hv j x y hx hy)
    obtain ⟨hj, rfl⟩ := Array.getElem?_eq_some_iff.1 hx
    exact (Array.all_eq_true.1 ha) j hj
  cases h with
  | one k =>
    refine .one (one _ _ ?_ k)
    cases k <;> simp_all [Abs.flat, Abs.scal]
  | agg xs ys hl hv => exact agg xs ys hf hl hv
  | tuple xs ys hl hv =>
    refine .tuple xs ys hl fun j x y hx hy => ?_
    obtain ⟨hj, rfl⟩ := Array.getElem?_eq_some_iff.1 hx
    have h1 := (Array.all_eq_true.1 hf) j hj
    have k := hv j _ y hx hy
    revert h1 k
    generalize xs[j] = x
    intro h1 k
    cases k with
    | one k => exact .one (one _ _ (by cases k <;> simp_all [Abs.scal]) k)
    | agg us bs hl2 hv2 => exact agg us bs h1 hl2 hv2
    | tuple us bs hl2 hv2 => simp [Abs.scal] at h1
theorem acalls_pure {P : Program} {f : FuncId} {args : List Value} {H : AH} {v0 : Value} (hf : flat v0 = true) (h : ACalls P f args H (fun v H' => v = v0 ∧ LE H H')) : ACalls P f args H (is v0 H) := by
  refine ⟨h.1, fun base ρ w args' hR hL => (h.2 base ρ w args' hR hL).mono ?_⟩
  rintro e w' ⟨v', v, H', ρ', rfl, ⟨rfl, hle⟩, R', hV, E⟩
  exact ⟨v', v, H, ρ', rfl, ⟨rfl, rfl⟩, hR.back R' hle, hV.flat hf, ⟨Nat.le_refl _, E.ag, E.bl, E.st⟩⟩
/-! ### What stays below a bound -/
structure Up (b : Nat) (H H' : AH) : Prop where
  next : H.next ≤ H'.next
  row : ∀ i, i < b → H'.row i = H.row i
theorem Up.refl (b : Nat) (H : AH) : Up b H H := ⟨Nat.le_refl _, fun _ _ => rfl⟩
theorem Up.trans {b b' : Nat} {A B C : AH} (h : Up b A B) (k : Up b' B C) (hb : b ≤ b') : Up b A C := ⟨Nat.le_trans h.next k.next, fun i hi => (k.row i (by omega)).trans (h.row i hi)⟩
theorem Up.push {b : Nat} {A H : AH} (h : Up b A H) (hb : b ≤ H.next) (r : Row) : Up b A (H.push r) := ⟨Nat.le_trans h.next (Nat.le_succ _), fun i hi => by rw [AH.push_row, if_neg (by omega)]; exact h.row i hi⟩
theorem Up.set {b : Nat} {A H : AH} (h : Up b A H) {i : Nat} (hi : b ≤ i) (cs : List Value) : Up b A (H.setCells i cs) := ⟨h.next, fun j hj => by rw [AH.setCells_row, if_neg (by omega)]; exact h.row j hj⟩
theorem Up.le {H H' : AH} (h : Up H.next H H') (hs : ∀ i r, H.row i = some r → i < H.next) : LE H H' := ⟨h.next, fun i r hr => by rw [h.row i (hs i r hr)]; exact hr⟩
theorem zaY {P : Program} {f : FuncId} {args : List Value} {H : AH} {v0 : Value} (hf : flat v0 = true) (h : ACalls P f args H (fun v H' => v = v0 ∧ Up H.next H H')) : ACalls P f args H (is v0 H) := by
  refine acalls_pure hf (ACalls.wf h.1 fun hs => h.mono fun v H' hh => ⟨hh.1, hh.2.le hs⟩)
/-! ### Loops, cuts -/
def Holds (p : Prop) : Prop := p
theorem zh5 (p : Prop) : Holds p = p := (rfl)
theorem Holds.mp {p : Prop} (h : Holds p) : p := h
theorem za5 {P : Program} {c : Code} {Q : Exit → T → AH → Prop} {t : T} {H : AH} (I : Nat → T → AH → Prop) (n : Nat) (h0 : I n t H)
    (hs : ∀ n t H, I n t H → Holds (awp P c (seqQ (fun t' H' => ∃ m, m < n ∧ I m t' H') Q) t H)) : awp P (.loop c) Q t H := ⟨I, ⟨n, h0⟩, hs⟩
theorem zbW {P : Program} {H : AH} {K K' : Value → AH → Prop} (hk : ∀ v H', K v H' → K' v H') : ∀ o : Out, runOut P H o K → runOut P H o K'
  | .val v H', h => hk _ _ h
  | .unit H', h => hk _ _ h
  | .call f a, h => ACalls.mono h hk
  | .need p o, h => ⟨h.1, zbW hk o h.2⟩
  | .alias a b c, h => h.imp (zbW hk a) fun k => ⟨zbW hk b k.1, zbW hk c k.2⟩
  | .stuck, h => h.elim
theorem condW_mono' {v : Value} {b : Bool} {A A' B B' : Prop} (h : condW v b A B) (ha : A → A') (hb : B → B') : condW v b A' B' := by
  unfold condW at *
  split at h
  · split at h
    · rename_i hh; rw [if_pos hh]; exact ha h
    · rename_i hh; rw [if_neg hh]; exact hb h
  · split at h
    · rename_i hh; rw [if_pos hh]; exact hb h
    · exact h.elim
  · exact h.elim
theorem zcX {P : Program} {all : List Oper} {Q Q' : T → AH → Prop} (hq : ∀ t H, Q t H → Q' t H) : ∀ (os : List Oper) (t : T) (H : AH), awpOps P all Q os t H → awpOps P all Q' os t H
  | [], t, H, h => hq t H h
  | o :: os, t, H, h => by
    unfold awpOps at h ⊢
    cases hg : o.guard with
    | none => rw [hg] at h; exact zbW (fun v H' k => zcX hq os _ _ k) _ h
    | some g => rw [hg] at h; exact condW_mono' h (zbW (fun v H' k => zcX hq os _ _ k) _) (zcX hq os _ _)
theorem zd2 {A A' : T → AH → Prop} {Q Q' : Exit → T → AH → Prop} (ha : ∀ t H, A t H → A' t H) (hq : ∀ e t H, Q e t H → Q' e t H) : ∀ e t H, seqQ A Q e t H → seqQ A' Q' e t H := by
  intro e t H h; cases e with
  | normal => exact ha _ _ h
  | _ => exact hq _ _ _ h
theorem blockQ_mono {id : Nat} {Q Q' : Exit → T → AH → Prop} (hq : ∀ e t H, Q e t H → Q' e t H) : ∀ e t H, blockQ id Q e t H → blockQ id Q' e t H := by
  intro e t H h; cases e with
  | exit i =>
    simp only [blockQ] at h ⊢
    by_cases hh : i = id
    · rw [if_pos hh] at h ⊢; exact hq _ _ _ h
    · rw [if_neg hh] at h ⊢; exact hq _ _ _ h
  | _ => exact hq _ _ _ h
theorem zbP {P : Program} : ∀ (c : Code) (Q Q' : Exit → T → AH → Prop) (t : T) (H : AH), (∀ e t H, Q e t H → Q' e t H) → awp P c Q t H → awp P c Q' t H
  | .skip, Q, Q', t, H, hq, h => hq _ _ _ h
  | .region _ ops false, Q, Q', t, H, hq, h => zcX (hq .normal) _ _ _ h
  | .region id ops true, Q, Q', t, H, hq, h => by
    intro base ρ w tmps QC hS hd hQ
    exact h base ρ w tmps QC hS hd fun e t' H' ρ' w' tmps' k => hQ e t' H' ρ' w' tmps' (zd2 (fun _ _ => hq _ _ _) (fun _ _ _ f => f.elim) _ _ _ k)
  | .seq a b, Q, Q', t, H, hq, h => zbP a _ _ t H (zd2 (fun t H => zbP b Q Q' t H hq) hq) h
  | .cond c a b, Q, Q', t, H, hq, h => by
    unfold awp at h ⊢
    unfold condC at h ⊢
    split at h
    · split at h
      · rename_i hh; rw [if_pos hh]; exact zbP a _ _ t H hq h
      · rename_i hh; rw [if_neg hh]; exact zbP b _ _ t H hq h
    · exact h.elim
  | .block id c, Q, Q', t, H, hq, h => zbP c _ _ t H (blockQ_mono hq) h
  | .loop c, Q, Q', t, H, hq, h => by
    obtain ⟨I, h0, hs⟩ := h
    exact ⟨I, h0, fun n t H k => zbP c _ _ t H (zd2 (fun _ _ k => k) hq) (hs n t H k)⟩
  | .exit id, Q, Q', t, H, hq, h => hq _ _ _ h
  | .ret, Q, Q', t, H, hq, h => hq _ _ _ h
  | .rangeFunc _ _ _ _, _, _, _, _, _, h => by simp [awp] at h
  | .scope _, _, _, _, _, _, h => by simp [awp] at h
  | .goto _, _, _, _, _, _, h => by simp [awp] at h
  | .label _, _, _, _, _, _, h => by simp [awp] at h
  | .refuse _, _, _, _, _, _, h => by simp [awp] at h
theorem zi7 {P : Program} {a b : Code} {Q : Exit → T → AH → Prop} {t : T} {H : AH} (M : T → AH → Prop) (h : awp P a (seqQ M Q) t H) (k : ∀ t H, M t H → awp P b Q t H) : awp P (.seq a b) Q t H :=
  zbP a _ _ t H (zd2 k fun _ _ _ h => h) h
theorem za4 {p : Prop} [Decidable p] {A B : Prop} (ha : p → A) (hb : ¬p → B) : condC (some (.bool (decide p))) A B := by
  by_cases h : p
  · simp only [condC, h, decide_true, if_true]; exact ha h
  · simp only [condC, h, decide_false]; exact hb h
theorem condC_true (A B : Prop) : condC (some (.bool true)) A B = A := (rfl)
theorem condC_false (A B : Prop) : condC (some (.bool false)) A B = B := (rfl)
theorem condW_tt (A B : Prop) : condW (.bool true) true A B = A := (rfl)
theorem condW_tf (A B : Prop) : condW (.bool true) false A B = B := (rfl)
theorem condW_ft (A B : Prop) : condW (.bool false) true A B = B := (rfl)
theorem condW_ff (A B : Prop) : condW (.bool false) false A B = A := (rfl)
theorem zcZ (A : T → AH → Prop) (Q : Exit → T → AH → Prop) (t : T) (H : AH) : seqQ A Q .normal t H = A t H := (rfl)
theorem seqQ_ret (A : T → AH → Prop) (Q : Exit → T → AH → Prop) (t : T) (H : AH) : seqQ A Q .ret t H = Q .ret t H := (rfl)
theorem seqQ_exit (A : T → AH → Prop) (Q : Exit → T → AH → Prop) (i : Nat) (t : T) (H : AH) : seqQ A Q (.exit i) t H = Q (.exit i) t H := (rfl)
theorem blockQ_normal (id : Nat) (Q : Exit → T → AH → Prop) (t : T) (H : AH) : blockQ id Q .normal t H = Q .normal t H := (rfl)
theorem blockQ_ret (id : Nat) (Q : Exit → T → AH → Prop) (t : T) (H : AH) : blockQ id Q .ret t H = Q .ret t H := (rfl)
theorem blockQ_exit (id : Nat) (Q : Exit → T → AH → Prop) (i : Nat) (t : T) (H : AH) : blockQ id Q (.exit i) t H = if i = id then Q .normal t H else Q (.exit i) t H := (rfl)
theorem retQ_ret (P : Program) (rs : List ResultVar) (R : Value → AH → Prop) (t : T) (H : AH) : retQ P rs R .ret t H = ∃ v, resV P rs t H = some v ∧ R v H := (rfl)
theorem retQ_normal (P : Program) (rs : List ResultVar) (R : Value → AH → Prop) (t : T) (H : AH) : retQ P rs R .normal t H = ∃ v, resV P rs t H = some v ∧ R v H := (rfl)
/-! ### Lists of integers -/
def ints (l : List Int) : List Value := l.map (.int .i64)
theorem za1 (l : List Int) : (ints l).length = l.length := by simp [ints]
theorem ints_get? (l : List Int) (i : Nat) (h : i < l.length) : (ints l)[i]? = some (.int .i64 (l.getD i 0)) := by simp [ints, h]
theorem zaR (l : List Int) (i : Nat) (x : Int) : (ints l).set i (.int .i64 x) = ints (l.set i x) := by simp [ints, List.map_set]
theorem zaK (a b : List Int) : ints a ++ ints b = ints (a ++ b) := by simp [ints]
theorem zfD (l : List Int) (o n : Nat) : seg (ints l) o n = ints ((l.drop o).take n) := by simp [ints, seg, List.map_take, List.map_drop]
theorem ints_zero (n : Nat) : List.replicate n (Value.int .i64 0) = ints (List.replicate n 0) := by simp [ints]
theorem zhS (l : List Int) : (ints l).toArray.all scal = true := by
  simp [ints, Array.all_eq_true, scal]
theorem zdW (l : List Value) (n : Nat) (h : n = l.length) : seg l 0 n = l := by subst h; simp [seg]
theorem splice_all (l m : List Value) (h : l.length = m.length) : splice l 0 m = m := by simp [splice, ← h]
/-! ### Places, parts, cells of what is written out -/
theorem placeT_array (P : Program) (n : Nat) (e : TypeId) : placeT P (.array n e) = (ti P e).bind fun E => some (fun i => some (i * E.size, E.size)) := (rfl)
theorem placeT_struct (P : Program) (fs : List (Nat × TypeId)) : placeT P (.struct fs) = (zc8 P fs).bind fun ps => some (fun i => ps[i]?) := (rfl)
theorem placesOf_nil (P : Program) : zc8 P [] = some [] := (rfl)
theorem placesOf_cons (P : Program) (o : Nat) (t : TypeId) (fs : List (Nat × TypeId)) : zc8 P ((o, t) :: fs) = (ti P t).bind fun I => (zc8 P fs).bind fun ps => some ((o, I.size) :: ps) := (rfl)
theorem fillL_nil (place : Nat → Option (Nat × Nat)) (cs : List Value) : fillL place cs [] = some cs := (rfl)
theorem fillL_cons (place : Nat → Option (Nat × Nat)) (cs : List Value) (i : Nat) (v : Value) (rest : List (Nat × Value)) : fillL place cs ((i, v) :: rest) = (place i).bind fun p =>
      if v.cells.size = p.2 ∧ p.1 + p.2 ≤ cs.length ∧ zcV v = true then fillL place (splice cs p.1 v.cells.toList) rest else none := (rfl)
theorem cells_int (k : IntKind) (n : Int) : (Value.int k n).cells = #[.int k n] := (rfl)
theorem cells_bool (b : Bool) : (Value.bool b).cells = #[.bool b] := (rfl)
theorem cells_slice (a : Option Addr) (n c : Nat) : (Value.slice a n c).cells = #[.slice a n c] := (rfl)
theorem cells_str (s : ByteArray) : (Value.string s).cells = #[.string s] := (rfl)
theorem cells_agg (xs : Array Value) : (Value.agg xs).cells = xs := (rfl)
theorem noTuple_int (k : IntKind) (n : Int) : zcV (.int k n) = true := (rfl)
theorem noTuple_bool (b : Bool) : zcV (.bool b) = true := (rfl)
theorem noTuple_slice (a : Option Addr) (n c : Nat) : zcV (.slice a n c) = true := (rfl)
theorem noTuple_str (s : ByteArray) : zcV (.string s) = true := (rfl)
theorem noTuple_agg (xs : Array Value) : zcV (.agg xs) = true := (rfl)
theorem one_int (k : IntKind) (n : Int) : (Value.int k n).oneCell' = true := (rfl)
theorem one_bool (b : Bool) : (Value.bool b).oneCell' = true := (rfl)
theorem one_slice (a : Option Addr) (n c : Nat) : (Value.slice a n c).oneCell' = true := (rfl)
theorem one_str (s : ByteArray) : (Value.string s).oneCell' = true := (rfl)
theorem one_ptr (a : Option Addr) : (Value.pointer a).oneCell' = true := (rfl)
theorem one_func (f : Fn) (a b : Array Value) : (Value.func f a b).oneCell' = true := (rfl)
theorem splice_nil0 (l : List Value) : splice l 0 [] = l := by simp [splice]
theorem splice_cons0 (x : Value) (l : List Value) (v : Value) (vs : List Value) : splice (x :: l) 0 (v :: vs) = v :: splice l 0 vs := by simp [splice]
theorem splice_succ (x : Value) (l : List Value) (o : Nat) (vs : List Value) : splice (x :: l) (o + 1) vs = x :: splice l o vs := by
  simp [splice, Nat.add_right_comm]
theorem seg_zero (l : List Value) (o : Nat) : seg l o 0 = [] := by simp [seg]
theorem seg_cons0 (x : Value) (l : List Value) (n : Nat) : seg (x :: l) 0 (n + 1) = x :: seg l 0 n := by simp [seg]
theorem seg_succ (x : Value) (l : List Value) (o n : Nat) : seg (x :: l) (o + 1) n = seg l o n := by simp [seg]
theorem zgD (l : List Int) (h : l.length = 14) : seg (ints l) 0 14 = ints l := zdW _ _ (by rw [za1, h])
theorem zdV (l m : List Int) (h : l.length = 14) (h' : m.length = 14) : splice (ints l) 0 (ints m) = ints m := splice_all _ _ (by rw [za1, za1, h, h'])
def resC (I : TI) (H : AH) (v : Value) : Option Value := match v with
    | .pointer (some ⟨i, o, none⟩) => (H.row i).bind fun r => if I.d.isAgg = true then (if o + I.size ≤ r.cells.length ∧ r.rw = true then some (.agg (seg r.cells o I.size).toArray) else none) else (if r.rw = true then r.cells[o]? else none)
    | _ => none
theorem res1_cell (P : Program) (t : T) (H : AH) (a : Nat) (ty : TypeId) : res1 P t H (.cell a ty) = (ti P ty).bind fun I => resC I H (t a) := (rfl)
theorem resC_ptr (I : TI) (H : AH) (i o : Nat) : resC I H (.pointer (some ⟨i, o, none⟩)) = (H.row i).bind fun r => if I.d.isAgg = true then (if o + I.size ≤ r.cells.length ∧ r.rw = true then some (.agg (seg r.cells o I.size).toArray) else none) else (if r.rw = true then r.cells[o]? else none) := (rfl)
theorem add_n2 (a : Nat) : a + 1 + 1 = a + 2 := (rfl)
theorem add_n3 (a : Nat) : a + 2 + 1 = a + 3 := (rfl)
theorem add_n4 (a : Nat) : a + 3 + 1 = a + 4 := (rfl)
theorem add_n5 (a : Nat) : a + 4 + 1 = a + 5 := (rfl)
theorem add_n6 (a : Nat) : a + 5 + 1 = a + 6 := (rfl)
theorem add_n7 (a : Nat) : a + 6 + 1 = a + 7 := (rfl)
theorem add_n8 (a : Nat) : a + 7 + 1 = a + 8 := (rfl)
theorem add_n9 (a : Nat) : a + 8 + 1 = a + 9 := (rfl)
theorem add_n10 (a : Nat) : a + 9 + 1 = a + 10 := (rfl)
theorem add_n11 (a : Nat) : a + 10 + 1 = a + 11 := (rfl)
theorem add_n12 (a : Nat) : a + 11 + 1 = a + 12 := (rfl)
theorem ok_rw (ty : TypeId) (cs vs : List Value) : Row.ok ⟨ty, true, cs⟩ vs = True := by simp [Row.ok]
theorem ok_int (r : Row) (k : IntKind) (n : Int) : Row.ok r [.int k n] = True := by simp [Row.ok, Value.oneCell']
theorem ok_bool (r : Row) (b : Bool) : Row.ok r [.bool b] = True := by simp [Row.ok, Value.oneCell']
theorem ok_str (r : Row) (s : ByteArray) : Row.ok r [.string s] = True := by simp [Row.ok, Value.oneCell']
theorem ok_slice (r : Row) (a : Option Addr) (n c : Nat) : Row.ok r [.slice a n c] = True := by simp [Row.ok, Value.oneCell']
theorem ok_ints (r : Row) (l : List Int) : Row.ok r (ints l) = True := by simp [Row.ok, ints, Value.oneCell']
theorem w64 {n : Int} (h : -9223372036854775808 ≤ n ∧ n ≤ 9223372036854775807) : IntKind.i64.wrap n = n := by
  unfold IntKind.wrap
  simp only [IntKind.bits, IntKind.signed]
  simp only [Bool.true_and, decide_eq_true_eq, Nat.reduceSub, Int.reducePow]
  split
  · rename_i hh; have hh' : (9223372036854775808 : Int) ≤ n % 18446744073709551616 := of_decide_eq_true hh; omega
  · rename_i hh; have hh' : ¬ (9223372036854775808 : Int) ≤ n % 18446744073709551616 := fun k => hh (decide_eq_true k); omega
end Go.Abs
end

section
namespace Go.Abs
open Go Go.RowKit
def Rd (k : Nat) (H : AH) (v : Value) (n : Nat) (l : List Int) : Prop :=
  l.length = n * k ∧ ((n = 0 ∧ ∃ a c, v = .slice a 0 c ∧ (a = none → c = 0)) ∨ ∃ i o u c r, v = .slice (some ⟨i, o, u⟩) n c ∧ H.row i = some r ∧ o + n * k ≤ r.cells.length ∧ seg r.cells o (n * k) = ints l)
def Fr (k : Nat) (ty : TypeId) (lo hi : Nat) (H : AH) (v : Value) (n : Nat) (l : List Int) : Prop :=
  l.length = n * k ∧ ((n = 0 ∧ v = .slice none 0 0) ∨ ∃ i, lo ≤ i ∧ i < hi ∧ v = .slice (some ⟨i, 0, some k⟩) n n ∧ H.row i = some ⟨ty, true, ints l⟩)
theorem Fr.rd {k ty lo hi n : Nat} {H : AH} {v : Value} {l : List Int} (h : Fr k ty lo hi H v n l) : Rd k H v n l := by
  refine ⟨h.1, ?_⟩
  rcases h.2 with h2 | ⟨i, h1, h2, rfl, hr⟩
  · exact .inl ⟨h2.1, none, 0, h2.2, fun _ => rfl⟩
  · exact .inr ⟨i, 0, some k, n, _, rfl, hr, by rw [za1, h.1]; omega, zdW _ _ (by rw [za1, h.1])⟩
theorem Fr.same {k ty lo hi n : Nat} {H H' : AH} {v : Value} {l : List Int} (h : Fr k ty lo hi H v n l) (hs : ∀ i, lo ≤ i → i < hi → H'.row i = H.row i) : Fr k ty lo hi H' v n l := by
  refine ⟨h.1, ?_⟩
  rcases h.2 with h2 | ⟨i, h1, h2, hv, hr⟩
  · exact .inl h2
  · exact .inr ⟨i, h1, h2, hv, by rw [hs i h1 h2]; exact hr⟩
theorem Fr.wide {k ty lo hi lo' hi' n : Nat} {H : AH} {v : Value} {l : List Int} (h : Fr k ty lo hi H v n l) (h1 : lo' ≤ lo) (h2 : hi ≤ hi') : Fr k ty lo' hi' H v n l := by
  refine ⟨h.1, ?_⟩
  rcases h.2 with h3 | ⟨i, h3, h4, hv, hr⟩
  · exact .inl h3
  · exact .inr ⟨i, by omega, by omega, hv, hr⟩
theorem Rd.same {k n : Nat} {H H' : AH} {v : Value} {l : List Int} (h : Rd k H v n l) (hs : ∀ i r, H.row i = some r → H'.row i = some r) : Rd k H' v n l := by
  refine ⟨h.1, ?_⟩
  rcases h.2 with h2 | ⟨i, o, u, c, r, hv, hr, h3⟩
  · exact .inl h2
  · exact .inr ⟨i, o, u, c, r, hv, hs _ _ hr, h3⟩
theorem Rd.len {k n : Nat} {H : AH} {v : Value} {l : List Int} (h : Rd k H v n l) (H' : AH) : asSl v (.val (.int .i64 0) H') (fun _ _ _ n _ => .val (.int .i64 (n : Int)) H') = .val (.int .i64 (n : Int)) H' := by
  rcases h.2 with ⟨rfl, a, c, rfl, _⟩ | ⟨i, o, u, c, r, rfl, hr, h3⟩
  · cases a <;> rfl
  · rfl
theorem Rd.get {k n : Nat} {H : AH} {v : Value} {l : List Int} (h : Rd k H v n l) (hn : 0 < n) :
    ∃ i o u c r, v = .slice (some ⟨i, o, u⟩) n c ∧ H.row i = some r ∧ o + n * k ≤ r.cells.length ∧ (∀ j, j < n * k → r.cells[o + j]? = some (.int .i64 (l.getD j 0))) ∧
      (∀ j m, j + m ≤ n * k → seg r.cells (o + j) m = ints ((l.drop j).take m)) := by
  rcases h.2 with ⟨rfl, _⟩ | ⟨i, o, u, c, r, rfl, hr, h3, h4⟩
  · omega
  · have key : ∀ j, j < n * k → r.cells[o + j]? = (ints l)[j]? := by
      intro j hj
      rw [← h4]; simp [seg, hj]
    refine ⟨i, o, u, c, r, rfl, hr, h3, fun j hj => ?_, fun j m hjm => ?_⟩
    · rw [key j hj, ints_get? l j (by rw [h.1]; exact hj)]
    · rw [← zfD, ← h4]
      apply List.ext_getElem?
      intro x
      simp only [seg, List.getElem?_take, List.getElem?_drop]
      by_cases hx : x < m
      · rw [if_pos hx, if_pos hx, if_pos (by omega)]
        congr 1; omega
      · rw [if_neg hx, if_neg hx]
theorem Rd.one {k n : Nat} {H : AH} {v : Value} {l : List Int} (h : Rd k H v n l) : v.oneCell' = true := by
  rcases h.2 with ⟨_, a, c, rfl, _⟩ | ⟨i, o, u, c, r, rfl, _⟩ <;> rfl
theorem Fr.get {k ty lo hi n : Nat} {H : AH} {v : Value} {l : List Int} (h : Fr k ty lo hi H v n l) (hn : 0 < n) :
    ∃ i, lo ≤ i ∧ i < hi ∧ v = .slice (some ⟨i, 0, some k⟩) n n ∧ H.row i = some ⟨ty, true, ints l⟩ := by
  rcases h.2 with ⟨h3, _⟩ | h3
  · omega
  · exact h3
theorem Fr.set {k ty lo hi n i : Nat} {H : AH} {l l' : List Int} (h : Fr k ty lo hi H (.slice (some ⟨i, 0, some k⟩) n n) n l) (hr : H.row i = some ⟨ty, true, ints l⟩) (h1 : lo ≤ i) (h2 : i < hi) (hl : l'.length = l.length) :
    Fr k ty lo hi (H.setCells i (ints l')) (.slice (some ⟨i, 0, some k⟩) n n) n l' :=
  ⟨by rw [hl]; exact h.1, .inr ⟨i, h1, h2, rfl, by rw [AH.setCells_row, if_pos rfl, hr]; rfl⟩⟩
def seqL (a : Int) (n : Nat) : List Int := (List.range n).map fun (i : Nat) => a + i
theorem zbT (z : List Value) : zeros 1 z = z := by simp [zeros]
theorem zaV (z : List Value) : zeros 0 z = [] := by simp [zeros]
theorem AH.setCells_setCells (H : AH) (i : Nat) (a b : List Value) : (H.setCells i a).setCells i b = H.setCells i b := by
  unfold AH.setCells
  simp only [AH.mk.injEq, true_and]
  funext j
  by_cases h : j = i
  · subst h; simp only [if_true]; cases H.row j <;> rfl
  · simp only [h, if_false]
theorem zgH {P : Program} {E : TI} {k ty lo hi n c : Nat} {H : AH} {v : Value} {l m : List Int} {K : Value → AH → Prop} (h : Fr k ty lo hi H v n l) (hk : E.size = k) (hk0 : 0 < k) (hm : m.length = c * k) (hc : 0 < c) (hb : E.bytes ≤ 32768) (hn : n + c ≤ 4294967296) (hhi : hi ≤ H.next)
    (hK : ∀ v' H', H'.next = H.next + 1 → (∀ i, ¬(lo ≤ i ∧ i < hi) → i < H.next → H'.row i = H.row i) → Fr k ty H.next (H.next + 1) H' v' (n + c) (l ++ m) → K v' H') :
    runOut P H (appE E ty v (ints m) c H) K := by
  subst hk
  have hl := h.1
  unfold appE
  rw [if_neg (by omega)]
  rcases h.2 with ⟨rfl, rfl⟩ | ⟨i, h1, h2, rfl, hr⟩
  · simp only [zc5, zaE, zaQ]
    have : l = [] := List.eq_nil_of_length_eq_zero (by omega)
    subst this
    refine ⟨⟨by omega, hb⟩, hK _ _ rfl (fun i _ hi => by rw [AH.push_row, if_neg (by omega)]) ⟨by simp [hm], .inr ⟨H.next, by omega, by omega, by simp, by rw [AH.push_row, if_pos rfl]; rfl⟩⟩⟩
  · simp only [zbD, hr, zaZ, zaE, Nat.zero_add, za1, hl]
    refine ⟨⟨by omega, hb, Nat.le_refl _, .inl rfl⟩, ?_⟩
    rw [if_neg (by rw [Nat.add_mul]; have := Nat.mul_pos hc hk0; omega)]
    simp only [zaE, zaQ]
    refine ⟨⟨trivial, trivial, hk0, trivial, trivial⟩, .inl (hK _ _ rfl (fun j hj hj2 => ?_) ⟨by simp [hm, hl, Nat.add_mul], .inr ⟨H.next, by omega, by omega, rfl, ?_⟩⟩)⟩
    · rw [AH.push_row, if_neg (by rw [AH.drop_next]; omega), AH.drop_row, if_neg (by omega)]
    · rw [AH.push_row, AH.drop_next, if_pos rfl, zdW _ _ (by rw [za1, hl]), zaK]
theorem push_setCells (H : AH) (ty : TypeId) (rw : Bool) (cs ds : List Value) : (H.push ⟨ty, rw, cs⟩).setCells H.next ds = H.push ⟨ty, rw, ds⟩ := by
  unfold AH.setCells AH.push
  simp only [AH.mk.injEq, true_and]
  funext j
  by_cases h : j = H.next
  · subst h; simp
  · simp only [h, if_false]
theorem zeros_ints (n k : Nat) : zeros n (ints (List.replicate k 0)) = ints (List.replicate (n * k) 0) := by
  unfold zeros
  induction n with
  | zero => simp [ints]
  | succ n ih =>
    rw [List.replicate_succ, List.flatten_cons, ih, zaK, List.replicate_append_replicate, Nat.succ_mul, Nat.add_comm]
end Go.Abs
end

section
set_option maxRecDepth 100000
set_option linter.defProp false
namespace Go.Abs
open Go Go.RowKit
def Sall := And.intro (And.intro (And.intro (And.intro (And.intro (And.intro (And.intro (@awp_skip) (@awp_ret)) (And.intro (@awp_exit) (And.intro (@zeR) (@awp_cond)))) (And.intro (And.intro (@awp_block) (And.intro (@awp_region) (@awpOps_cons))) (And.intro (@awpOps_guard) (And.intro (@awpOps_nil) (@evo_tmp))))) (And.intro (And.intro (And.intro (@evo_int) (@evo_bool)) (And.intro (@evo_func) (And.intro (@evo_nil) (@evo_str)))) (And.intro (And.intro (@evs_nil) (And.intro (@evs_cons) (@evp_nil))) (And.intro (@evp_cons) (And.intro (@zaZ) (@asI_int)))))) (And.intro (And.intro (And.intro (And.intro (@asB_bool) (@asP_ptr)) (And.intro (@zc5) (And.intro (@zbD) (@asAgg_agg)))) (And.intro (And.intro (@asTup_tup) (And.intro (@asStr_str) (@asFn_fn))) (And.intro (@asCells_agg) (And.intro (@asCells_int) (@asCells_bool))))) (And.intro (And.intro (And.intro (@asCells_slice) (@asCells_str)) (And.intro (@asCells_fn) (And.intro (@asCells_ptr) (@slT_sl)))) (And.intro (And.intro (@stT_st) (And.intro (@oI_none) (@oI_some))) (And.intro (@zaQ) (And.intro (@runOut_unit) (@runOut_call))))))) (And.intro (And.intro (And.intro (And.intro (And.intro (@zaE) (@condW_tt)) (And.intro (@condW_tf) (And.intro (@condW_ft) (@condW_ff)))) (And.intro (And.intro (@condW_undef) (And.intro (@condC_true) (@condC_false))) (And.intro (@updO_some) (And.intro (@updO_none) (@upd_apply))))) (And.intro (And.intro (And.intro (@zcZ) (@seqQ_ret)) (And.intro (@seqQ_exit) (And.intro (@blockQ_normal) (@blockQ_ret)))) (And.intro (And.intro (@blockQ_exit) (And.intro (@retQ_ret) (@retQ_normal))) (And.intro (@resL_nil) (And.intro (@resL_cons) (@res1_tmp)))))) (And.intro (And.intro (And.intro (And.intro (@pack_0) (@pack_1)) (And.intro (@pack_2) (And.intro (@AH.push_row) (@AH.push_next)))) (And.intro (And.intro (@AH.setCells_row) (And.intro (@AH.setCells_next) (@AH.drop_row))) (And.intro (@AH.drop_next) (And.intro (@List.getD_cons_zero.{0}) (@List.getD_cons_succ.{0}))))) (And.intro (And.intro (And.intro (@List.getD_nil.{0}) (And.intro (@List.getElem?_cons_zero.{0}) (@List.getElem?_cons_succ.{0}))) (And.intro (@Option.bind_some.{0, 0}) (And.intro (@Option.some.injEq.{0}) (And.intro (@exists_eq_left'.{0}) (@exists_eq_left'.{1}))))) (And.intro (And.intro (@Bool.false_eq_true) (And.intro (@true_and) (@and_true))) (And.intro (@List.toList_toArray.{0}) (And.intro (@List.cons_append.{0}) (@List.nil_append.{0})))))))) (And.intro (And.intro (And.intro (And.intro (And.intro (And.intro (@placeT_array) (@placeT_struct)) (And.intro (@placesOf_nil) (And.intro (@placesOf_cons) (@fillL_nil)))) (And.intro (And.intro (@fillL_cons) (And.intro (@cells_int) (@cells_bool))) (And.intro (@cells_slice) (And.intro (@cells_str) (@cells_agg))))) (And.intro (And.intro (And.intro (@noTuple_int) (@noTuple_bool)) (And.intro (@noTuple_slice) (And.intro (@noTuple_str) (@noTuple_agg)))) (And.intro (And.intro (@one_int) (And.intro (@one_bool) (@one_slice))) (And.intro (@one_str) (And.intro (@one_ptr) (@one_func)))))) (And.intro (And.intro (And.intro (And.intro (@splice_nil0) (@splice_cons0)) (And.intro (@splice_succ) (And.intro (@seg_zero) (@seg_cons0)))) (And.intro (And.intro (@seg_succ) (And.intro (@zgD) (@zdV))) (And.intro (@ints_zero) (And.intro (@za1) (@List.length_replicate.{0}))))) (And.intro (And.intro (And.intro (@List.length_cons.{0}) (And.intro (@List.length_nil.{0}) (@Nat.zero_add))) (And.intro (@Nat.add_zero) (And.intro (@Nat.zero_mul) (@Nat.mul_one)))) (And.intro (And.intro (@Nat.one_mul) (And.intro (@List.size_toArray.{0}) (@and_self))) (And.intro (@Nat.le_refl) (And.intro (@Option.map_some.{0, 0}) (And.intro (@ite_true.{0}) (@ite_true.{1})))))))) (And.intro (And.intro (And.intro (And.intro (And.intro (And.intro (@ite_false.{0}) (@ite_false.{1})) (@res1_cell)) (And.intro (@resC_ptr) (And.intro (@Nat.left_eq_add) (@Nat.add_eq_left)))) (And.intro (And.intro (@Nat.succ_ne_self) (And.intro (@Nat.add_left_cancel_iff) (@Nat.add_right_cancel_iff))) (And.intro (@awpD_nil) (And.intro (@awpD_cons) (@awpD_guard))))) (And.intro (And.intro (And.intro (@true_or) (And.intro (@ne_eq.{0}) (@ne_eq.{1}))) (And.intro (@Nat.one_ne_zero) (And.intro (@not_false_eq_true) (@Int.toNat_natCast)))) (And.intro (And.intro (@Value.int.injEq) (And.intro (@Value.bool.injEq) (And.intro (@implies_true.{0}) (@implies_true.{1})))) (And.intro (@zbV) (And.intro (@zbM) (@zbX)))))) (And.intro (And.intro (And.intro (And.intro (@stepI_guard) (@add_n2)) (And.intro (@add_n3) (And.intro (@add_n4) (@add_n5)))) (And.intro (And.intro (@add_n6) (And.intro (@add_n7) (@add_n8))) (And.intro (@add_n9) (And.intro (@add_n10) (@add_n11))))) (And.intro (And.intro (And.intro (@add_n12) (And.intro (@ok_rw) (@ok_int))) (And.intro (@ok_bool) (And.intro (@ok_str) (@ok_slice)))) (And.intro (And.intro (@ok_ints) (And.intro (@zh5) (@List.set_cons_zero.{0}))) (And.intro (@List.set_cons_succ.{0}) (And.intro (@Bool.not_true) (@Bool.not_false))))))))
def L3 := And.intro (@za1) (And.intro (@List.length_replicate.{0}) (@List.length_set.{0}))
end Go.Abs
end

section
namespace Go.Proofs.YtemgclojolmhbaaGreat.A
open Go Go.Abs Go.RowKit
theorem ti2 : ti Tryz.prog 2 = some ⟨.int .i64, 1, 8, [.int .i64 0]⟩ := by kernel_rfl
theorem ti3 : ti Tryz.prog 3 = some ⟨.int .i64, 1, 8, [.int .i64 0]⟩ := by kernel_rfl
theorem ti4 : ti Tryz.prog 4 = some ⟨.bool, 1, 1, [.bool false]⟩ := by kernel_rfl
theorem ti66 : ti Tryz.prog 66 = some ⟨.array 14 2, 14, 112, ints (List.replicate 14 0)⟩ := by kernel_rfl
theorem ti67 : ti Tryz.prog 67 = some ⟨.array 14 2, 14, 112, ints (List.replicate 14 0)⟩ := by kernel_rfl
theorem ti33 : ti Tryz.prog 33 = some ⟨.slice 2, 1, 24, [.slice none 0 0]⟩ := by kernel_rfl
theorem ti30 : ti Tryz.prog 30 = some ⟨.slice 33, 1, 24, [.slice none 0 0]⟩ := by kernel_rfl
theorem ti24 : ti Tryz.prog 24 = some ⟨.slice 67, 1, 24, [.slice none 0 0]⟩ := by kernel_rfl
theorem ti26 : ti Tryz.prog 26 = some ⟨.struct [(0, 2), (1, 24)], 2, 32, [.int .i64 0, .slice none 0 0]⟩ := by kernel_rfl
theorem ti64 : ti Tryz.prog 64 = some ⟨.other, 1, 8, [.nilFunc]⟩ := by kernel_rfl
theorem ti109 : ti Tryz.prog 109 = some ⟨.slice 4, 1, 24, [.slice none 0 0]⟩ := by kernel_rfl
theorem tiA : ti Tryz.prog 2 = some ⟨.int .i64, 1, 8, [.int .i64 0]⟩ ∧ ti Tryz.prog 3 = some ⟨.int .i64, 1, 8, [.int .i64 0]⟩ ∧ ti Tryz.prog 4 = some ⟨.bool, 1, 1, [.bool false]⟩ ∧ ti Tryz.prog 66 = some ⟨.array 14 2, 14, 112, ints (List.replicate 14 0)⟩ ∧ ti Tryz.prog 67 = some ⟨.array 14 2, 14, 112, ints (List.replicate 14 0)⟩ ∧ ti Tryz.prog 33 = some ⟨.slice 2, 1, 24, [.slice none 0 0]⟩ ∧ ti Tryz.prog 30 = some ⟨.slice 33, 1, 24, [.slice none 0 0]⟩ ∧ ti Tryz.prog 24 = some ⟨.slice 67, 1, 24, [.slice none 0 0]⟩ ∧ ti Tryz.prog 26 = some ⟨.struct [(0, 2), (1, 24)], 2, 32, [.int .i64 0, .slice none 0 0]⟩ ∧ ti Tryz.prog 64 = some ⟨.other, 1, 8, [.nilFunc]⟩ ∧ ti Tryz.prog 109 = some ⟨.slice 4, 1, 24, [.slice none 0 0]⟩ := ⟨ti2, ti3, ti4, ti66, ti67, ti33, ti30, ti24, ti26, ti64, ti109⟩
theorem listed (a b : Nat) : a + b = b + a ∧ True := by
  simp only [Sall,evalOp,init,binA_s,binE,binI,unE,convE,okNil,builtE,gv,TD.isAgg,resV,↓reduceIte,Nat.reduceEqDiff,reduceCtorEq,Nat.reduceAdd,Nat.reduceMul,Nat.reduceLeDiff,za0,za2,Int.reduceEq,Int.reduceLT,Int.reduceLE,Nat.reduceLT, tiA]
  exact Nat.add_comm a b
end Go.Proofs.YtemgclojolmhbaaGreat.A
end

section
namespace Go.Proofs.YtemgclojolmhbaaGreat.A
open Go Go.Abs Go.RowKit
theorem ti70 : ti Tryz.prog 70 = some ⟨.struct [(0, 3), (1, 2), (2, 2)], 3, 24, [.int .i64 0, .int .i64 0, .int .i64 0]⟩ := by kernel_rfl
theorem ti65 : ti Tryz.prog 65 = some ⟨.slice 70, 1, 24, [.slice none 0 0]⟩ := by kernel_rfl
theorem ti107 : ti Tryz.prog 107 = some ⟨.other, 1, 8, [.nilFunc]⟩ := by kernel_rfl
theorem ti83 : ti Tryz.prog 83 = some ⟨.other, 1, 8, [.nilFunc]⟩ := by kernel_rfl
theorem ti82 : ti Tryz.prog 82 = some ⟨.other, 1, 8, [.nilFunc]⟩ := by kernel_rfl
theorem ti108 : ti Tryz.prog 108 = some ⟨.slice 109, 1, 24, [.slice none 0 0]⟩ := by kernel_rfl
theorem ti5 : ti Tryz.prog 5 = some ⟨.int .u8, 1, 1, [.int .u8 0]⟩ := by kernel_rfl
theorem ti96 : ti Tryz.prog 96 = some ⟨.int .u64, 1, 8, [.int .u64 0]⟩ := by kernel_rfl
theorem ti92 : ti Tryz.prog 92 = some ⟨.int .u64, 1, 8, [.int .u64 0]⟩ := by kernel_rfl
theorem ti22 : ti Tryz.prog 22 = some ⟨.slice 5, 1, 24, [.slice none 0 0]⟩ := by kernel_rfl
theorem ti94 : ti Tryz.prog 94 = some ⟨.struct [(0, 22), (1, 3), (2, 92)], 3, 40, [.slice none 0 0, .int .i64 0, .int .u64 0]⟩ := by kernel_rfl
theorem ti9 : ti Tryz.prog 9 = some ⟨.str, 1, 16, [.string ByteArray.empty]⟩ := by kernel_rfl
theorem tiXA : ti Tryz.prog 70 = some ⟨.struct [(0, 3), (1, 2), (2, 2)], 3, 24, [.int .i64 0, .int .i64 0, .int .i64 0]⟩ ∧ ti Tryz.prog 65 = some ⟨.slice 70, 1, 24, [.slice none 0 0]⟩ ∧ ti Tryz.prog 107 = some ⟨.other, 1, 8, [.nilFunc]⟩ ∧ ti Tryz.prog 83 = some ⟨.other, 1, 8, [.nilFunc]⟩ ∧ ti Tryz.prog 82 = some ⟨.other, 1, 8, [.nilFunc]⟩ ∧ ti Tryz.prog 108 = some ⟨.slice 109, 1, 24, [.slice none 0 0]⟩ ∧ ti Tryz.prog 5 = some ⟨.int .u8, 1, 1, [.int .u8 0]⟩ ∧ ti Tryz.prog 96 = some ⟨.int .u64, 1, 8, [.int .u64 0]⟩ ∧ ti Tryz.prog 92 = some ⟨.int .u64, 1, 8, [.int .u64 0]⟩ ∧ ti Tryz.prog 22 = some ⟨.slice 5, 1, 24, [.slice none 0 0]⟩ ∧ ti Tryz.prog 94 = some ⟨.struct [(0, 22), (1, 3), (2, 92)], 3, 40, [.slice none 0 0, .int .i64 0, .int .u64 0]⟩ ∧ ti Tryz.prog 9 = some ⟨.str, 1, 16, [.string ByteArray.empty]⟩ := ⟨ti70, ti65, ti107, ti83, ti82, ti108, ti5, ti96, ti92, ti22, ti94, ti9⟩
end Go.Proofs.YtemgclojolmhbaaGreat.A
end

section
namespace Go.Abs
def oddUp (n : Nat) : Nat := n - 1 + n % 2
def cb (m r x : Nat) : Int := Int.tmod (2 * (r : Int) - (x : Int) + (m : Int)) (m : Int)
def cmid (n r k : Nat) : List Int := (List.range 14).map fun x => if x < oddUp n then (if x < k ∨ cb (oddUp n) r x < k then cb (oddUp n) r x else x) else if x < n then x else 0
def cset (n r k : Nat) : List Int := (List.range 14).map fun x => if x < oddUp n then (if x < k then cb (oddUp n) r x else x) else if x < n then x else 0
def cround (n r : Nat) : List Int := if n % 2 = 0 then ((cmid n r (oddUp n)).set (n - 1) r).set r ((n : Int) - 1) else cmid n r (oddUp n)
theorem za9 (n r k : Nat) : (cmid n r k).length = 14 := by simp [cmid]
theorem zaB (n r k : Nat) : (cset n r k).length = 14 := by simp [cset]
theorem za6 (n r : Nat) : (cround n r).length = 14 := by unfold cround; split <;> simp [za9]
theorem zi8 : ∀ n, n < 15 → ∀ r, r < oddUp n → ∀ x, x < oddUp n → 0 ≤ cb (oddUp n) r x ∧ cb (oddUp n) r x < oddUp n := by decide +kernel
theorem cmid_zero : ∀ n, n < 15 → ∀ r, r < oddUp n → cmid n r 0 = (List.range 14).map (fun (a : Nat) => if (a : Int) < (n : Int) then (a : Int) else 0) := by decide +kernel
theorem cmid_step : ∀ n, n < 15 → ∀ r, r < oddUp n → ∀ k, k < oddUp n → (if (k : Int) < cb (oddUp n) r k then ((cmid n r k).set k (cb (oddUp n) r k)).set (cb (oddUp n) r k).toNat k else cmid n r k) = cmid n r (k + 1) := by decide +kernel
theorem cset_zero : ∀ n, n < 15 → ∀ r, r < oddUp n → cset n r 0 = (List.range 14).map (fun (a : Nat) => if (a : Int) < (n : Int) then (a : Int) else 0) := by decide +kernel
theorem cset_step : ∀ n, n < 15 → ∀ r, r < oddUp n → ∀ k, k < oddUp n → (cset n r k).set k (cb (oddUp n) r k) = cset n r (k + 1) := by decide +kernel
theorem cset_last : ∀ n, n < 15 → ∀ r, r < oddUp n → cset n r (oddUp n) = cmid n r (oddUp n) := by decide +kernel
def zaW (n k : Nat) : List Int := ((List.range k).map (cround n)).flatten
theorem zcM (n k : Nat) : zaW n (k + 1) = zaW n k ++ cround n k := by simp [zaW, List.range_succ]
end Go.Abs
end

section
set_option maxRecDepth 100000
namespace Go.Proofs.YtemgclojolmhbaaGreat.A
open Go Go.Abs Go.RowKit
def freeL (n : Int) : List Int := (List.range 14).map fun (a : Nat) => if (a : Int) < n then (a : Int) else 0
theorem zaJ (n : Int) : (freeL n).length = 14 := by simp [freeL]
theorem zhZ (a : Int) (h : 0 ≤ a) (h' : a < 14) : (freeL a).set a.toNat a = freeL (a + 1) := by
  apply List.ext_getElem
  · simp [freeL]
  · intro i h1 h2
    simp only [freeL, List.getElem_set, List.getElem_map, List.getElem_range]
    split
    · rename_i e; rw [if_pos (by omega)]; omega
    · rename_i e; split <;> split <;> omega
theorem free_c (n : Int) (hn : n ≤ 14) (H : AH) : ACalls Tryz.prog 81 [.int .i64 n] H (is (.agg (ints (freeL n)).toArray) H) := by
  refine zaY (zhS _) (za3 [.cell 2 67] Tryz.func81 (by kernel_rfl) rfl rfl (Nat.le_of_ble_eq_true rfl) (by kernel_rfl) ?_)
  try simp (disch := first | omega | (simp only [za1, zaJ, List.length_replicate] <;> omega)) only [Sall,evalOp,init,binA_s,binE,binI,unE,convE,okNil,builtE,gv,TD.isAgg,resV,↓reduceIte,Nat.reduceEqDiff,reduceCtorEq,Nat.reduceAdd,Nat.reduceMul,Nat.reduceLeDiff,za0,za2,Int.reduceEq,Int.reduceLT,Int.reduceLE,Nat.reduceLT,tiA, true_and]
  refine za5 (fun m t H' => ∃ a : Int, m = (n - a).toNat ∧ 0 ≤ a ∧ a ≤ 14 ∧ (a ≤ n ∨ a = 0) ∧ t 7 = .int .i64 a ∧ t 6 = .int .i64 n ∧ t 3 = .pointer (some ⟨H.next + 1, 0, none⟩) ∧ t 2 = .pointer (some ⟨H.next, 0, none⟩) ∧ Up H.next H H' ∧
    H'.row H.next = some ⟨67, true, ints (List.replicate 14 0)⟩ ∧ H'.row (H.next + 1) = some ⟨67, true, ints (freeL a)⟩) n.toNat ?_ ?_
  · refine ⟨0, by omega, by omega, by omega, by omega, ?_⟩
    try simp (disch := first | omega | (simp only [za1, zaJ, List.length_replicate] <;> omega)) only [Sall,evalOp,init,binA_s,binE,binI,unE,convE,okNil,builtE,gv,TD.isAgg,resV,↓reduceIte,Nat.reduceEqDiff,reduceCtorEq,Nat.reduceAdd,Nat.reduceMul,Nat.reduceLeDiff,za0,za2,Int.reduceEq,Int.reduceLT,Int.reduceLE,Nat.reduceLT,tiA, true_and]
    refine ⟨(((Up.refl _ H).push (by omega) _).push (Nat.le_succ _) _).set (by omega) _, ?_⟩
    exact congrArg (fun l => Row.mk _ true (ints l)) (by decide : List.replicate 14 0 = freeL 0)
  · rintro m t H' ⟨a, hm, h0, h14, han, h7, h6, h3, h2, hup, hr0, hr1⟩
    try simp (disch := first | omega | (simp only [za1, zaJ, List.length_replicate] <;> omega)) only [Sall,evalOp,init,binA_s,binE,binI,unE,convE,okNil,builtE,gv,TD.isAgg,resV,↓reduceIte,Nat.reduceEqDiff,reduceCtorEq,Nat.reduceAdd,Nat.reduceMul,Nat.reduceLeDiff,za0,za2,Int.reduceEq,Int.reduceLT,Int.reduceLE,Nat.reduceLT,tiA, h7, h6]
    refine za4 (fun h => ?_) (fun h => ?_)
    · try simp (disch := first | omega | (simp only [za1, zaJ, List.length_replicate] <;> omega)) only [Sall,evalOp,init,binA_s,binE,binI,unE,convE,okNil,builtE,gv,TD.isAgg,resV,↓reduceIte,Nat.reduceEqDiff,reduceCtorEq,Nat.reduceAdd,Nat.reduceMul,Nat.reduceLeDiff,za0,za2,Int.reduceEq,Int.reduceLT,Int.reduceLE,Nat.reduceLT,tiA, h7, h6, h3, h2, hr1, hr0, zaR, w64, zhZ]
      refine ⟨⟨h0, by omega⟩, by rw [zaJ]; omega, (n - (a + 1)).toNat, by omega, a + 1, rfl, by omega, by omega, by omega, rfl, hup.set (by omega) _, rfl⟩
    · try simp (disch := first | omega | (simp only [za1, zaJ, List.length_replicate] <;> omega)) only [Sall,evalOp,init,binA_s,binE,binI,unE,convE,okNil,builtE,gv,TD.isAgg,resV,↓reduceIte,Nat.reduceEqDiff,reduceCtorEq,Nat.reduceAdd,Nat.reduceMul,Nat.reduceLeDiff,za0,za2,Int.reduceEq,Int.reduceLT,Int.reduceLE,Nat.reduceLT,tiA, h7, h6, h3, h2, hr1, hr0, zaJ]
      refine ⟨?_, hup.set (by omega) _⟩
      rcases han with h | h
      · rw [show a = n by omega]
      · subst h; congr 3; simp only [freeL]; apply List.map_congr_left; intro x hx; rw [if_neg (by omega), if_neg (by omega)]
theorem freeS_c (n : Int) (hn : n ≤ 14) (H : AH) : ACalls Tryz.prog 73 [.int .i64 n] H (is (.agg (ints (freeL n)).toArray) H) := by
  refine zaY (zhS _) (za3 [.cell 2 67] Tryz.func73 (by kernel_rfl) rfl rfl (Nat.le_of_ble_eq_true rfl) (by kernel_rfl) ?_)
  try simp (disch := first | omega | (simp only [za1, zaJ, List.length_replicate] <;> omega)) only [Sall,evalOp,init,binA_s,binE,binI,unE,convE,okNil,builtE,gv,TD.isAgg,resV,↓reduceIte,Nat.reduceEqDiff,reduceCtorEq,Nat.reduceAdd,Nat.reduceMul,Nat.reduceLeDiff,za0,za2,Int.reduceEq,Int.reduceLT,Int.reduceLE,Nat.reduceLT,tiA, true_and]
  refine za5 (fun m t H' => ∃ a : Int, m = (n - a).toNat ∧ 0 ≤ a ∧ a ≤ 14 ∧ (a ≤ n ∨ a = 0) ∧ t 4 = .int .i64 a ∧ t 0 = .int .i64 n ∧ t 3 = .pointer (some ⟨H.next + 1, 0, none⟩) ∧ t 2 = .pointer (some ⟨H.next, 0, none⟩) ∧ Up H.next H H' ∧
    H'.row H.next = some ⟨67, true, ints (List.replicate 14 0)⟩ ∧ H'.row (H.next + 1) = some ⟨67, true, ints (freeL a)⟩) n.toNat ?_ ?_
  · refine ⟨0, by omega, by omega, by omega, by omega, ?_⟩
    try simp (disch := first | omega | (simp only [za1, zaJ, List.length_replicate] <;> omega)) only [Sall,evalOp,init,binA_s,binE,binI,unE,convE,okNil,builtE,gv,TD.isAgg,resV,↓reduceIte,Nat.reduceEqDiff,reduceCtorEq,Nat.reduceAdd,Nat.reduceMul,Nat.reduceLeDiff,za0,za2,Int.reduceEq,Int.reduceLT,Int.reduceLE,Nat.reduceLT,tiA, true_and]
    refine ⟨(((Up.refl _ H).push (by omega) _).push (Nat.le_succ _) _).set (by omega) _, ?_⟩
    exact congrArg (fun l => Row.mk _ true (ints l)) (by decide : List.replicate 14 0 = freeL 0)
  · rintro m t H' ⟨a, hm, h0, h14, han, h7, h6, h3, h2, hup, hr0, hr1⟩
    try simp (disch := first | omega | (simp only [za1, zaJ, List.length_replicate] <;> omega)) only [Sall,evalOp,init,binA_s,binE,binI,unE,convE,okNil,builtE,gv,TD.isAgg,resV,↓reduceIte,Nat.reduceEqDiff,reduceCtorEq,Nat.reduceAdd,Nat.reduceMul,Nat.reduceLeDiff,za0,za2,Int.reduceEq,Int.reduceLT,Int.reduceLE,Nat.reduceLT,tiA, h7, h6]
    refine za4 (fun h => ?_) (fun h => ?_)
    · try simp (disch := first | omega | (simp only [za1, zaJ, List.length_replicate] <;> omega)) only [Sall,evalOp,init,binA_s,binE,binI,unE,convE,okNil,builtE,gv,TD.isAgg,resV,↓reduceIte,Nat.reduceEqDiff,reduceCtorEq,Nat.reduceAdd,Nat.reduceMul,Nat.reduceLeDiff,za0,za2,Int.reduceEq,Int.reduceLT,Int.reduceLE,Nat.reduceLT,tiA, h7, h6, h3, h2, hr1, hr0, zaR, w64, zhZ, zaJ]
      refine ⟨⟨h0, by omega⟩, by omega, (n - (a + 1)).toNat, by omega, a + 1, rfl, by omega, by omega, by omega, rfl, hup.set (by omega) _, rfl⟩
    · try simp (disch := first | omega | (simp only [za1, zaJ, List.length_replicate] <;> omega)) only [Sall,evalOp,init,binA_s,binE,binI,unE,convE,okNil,builtE,gv,TD.isAgg,resV,↓reduceIte,Nat.reduceEqDiff,reduceCtorEq,Nat.reduceAdd,Nat.reduceMul,Nat.reduceLeDiff,za0,za2,Int.reduceEq,Int.reduceLT,Int.reduceLE,Nat.reduceLT,tiA, h7, h6, h3, h2, hr1, hr0, zaJ]
      refine ⟨?_, hup.set (by omega) _⟩
      rcases han with h | h
      · rw [show a = n by omega]
      · subst h; congr 3; simp only [freeL]; apply List.map_congr_left; intro x hx; rw [if_neg (by omega), if_neg (by omega)]
theorem meet_c (i ty : Nat) (a b : Int) (l : List Int) (H : AH) (hr : H.row i = some ⟨ty, true, ints l⟩) (hl : l.length = 14) (ha : 0 ≤ a ∧ a < 14) (hb : 0 ≤ b ∧ b < 14) :
    ACalls Tryz.prog 82 [.pointer (some ⟨i, 0, none⟩), .int .i64 a, .int .i64 b] H (is (.tuple #[]) (H.setCells i (ints ((l.set a.toNat b).set b.toNat a)))) := by
  refine za3 [] Tryz.func82 (by kernel_rfl) rfl rfl (Nat.le_of_ble_eq_true rfl) (by kernel_rfl) ?_
  try simp (disch := first | omega | (simp only [za1, zaJ, List.length_replicate] <;> omega)) only [Sall,evalOp,init,binA_s,binE,binI,unE,convE,okNil,builtE,gv,TD.isAgg,resV,↓reduceIte,Nat.reduceEqDiff,reduceCtorEq,Nat.reduceAdd,Nat.reduceMul,Nat.reduceLeDiff,za0,za2,Int.reduceEq,Int.reduceLT,Int.reduceLE,Nat.reduceLT,tiA, true_and]
  refine zhI [0, 1, 2, 3, 4, 5, 6, 9, 7, 8, 10, 11] (by kernel_rfl) (by kernel_rfl) rfl ?_
  have e1 : (l.set a.toNat b).length = 14 := by simp [hl]
  try simp (disch := first | omega | (simp only [za1, zaJ, List.length_replicate] <;> omega)) only [Sall,evalOp,init,binA_s,binE,binI,unE,convE,okNil,builtE,gv,TD.isAgg,resV,↓reduceIte,Nat.reduceEqDiff,reduceCtorEq,Nat.reduceAdd,Nat.reduceMul,Nat.reduceLeDiff,za0,za2,Int.reduceEq,Int.reduceLT,Int.reduceLE,Nat.reduceLT,tiA, hr, zaR, hl, e1, is, AH.setCells_setCells]
  refine ⟨⟨ha.1, by omega⟩, by omega, .inr (.inl (by kernel_rfl)), ⟨hb.1, by omega⟩, by omega, .inr (.inl (by kernel_rfl))⟩
end Go.Proofs.YtemgclojolmhbaaGreat.A
end

section
namespace Go.Abs
open Go Go.RowKit
end Go.Abs
end

section
namespace Go.Abs
open Go Go.RowKit
def absV (n : Nat) (v : Value) : Value := if scal v = true then v else match v with
  | .slice (some _) 0 c => if 0 < n then .slice (some ⟨0, 1, some 0⟩) 0 c else undef
  | .slice (some ⟨b, o, none⟩) l c => if b < n then .slice (some ⟨b, o, none⟩) l c else undef
  | _ => undef
def absRow (w : World) (b : Nat) : List Value := match bsz w b with
  | some k => (List.range k).map fun j => match w.cell? ⟨b, j, none⟩ with | some v => absV w.heap.size v | none => undef
  | none => []
def given (w : World) : AH := ⟨w.heap.size, fun b => if b < w.heap.size then some ⟨0, false, absRow w b⟩ else none⟩
theorem absV_rel (w : World) (v : Value) (h : (absV w.heap.size v).oneCell' = true) : V1 id w.heap.size w (absV w.heap.size v) v := by
  unfold absV at h ⊢
  by_cases hs : scal v = true
  · rw [if_pos hs]; exact .scal v hs
  · rw [if_neg hs] at h ⊢
    split at h
    · rename_i a c
      by_cases hb : 0 < w.heap.size
      · simp only [hb, if_true]; exact .slu 0 1 0 c 0 a c hb (Nat.zero_le _) (.inr ⟨rfl, Nat.zero_lt_one⟩)
      · simp [hb, undef, Value.oneCell'] at h
    · rename_i b o l c _
      by_cases hb : b < w.heap.size
      · simp only [hb, if_true]; exact V1.sle (ρ := id) b o l c hb
      · simp [hb, undef, Value.oneCell'] at h
    · simp [undef, Value.oneCell'] at h
theorem given_rel (w : World) : Rel w.heap.size id (given w) w := by
  refine ⟨fun i r hr => ?_, fun i r hr hb => ?_, fun i r hr hb => ?_, fun i j r s hr hs hb => ?_, Nat.le_refl _⟩
  · simp only [given] at hr ⊢; split at hr
    · assumption
    · cases hr
  · simp only [given] at hr ⊢; split at hr
    · rename_i hi
      cases hr
      refine ⟨hi, fun j v hv ho => ?_⟩
      unfold absRow at hv
      split at hv
      · simp only [List.getElem?_map, Option.map_eq_some_iff] at hv
        obtain ⟨j', hj', hv⟩ := hv
        have : j' = j := by
          rw [List.getElem?_range (by simpa using (List.getElem?_eq_some_iff.1 hj').1)] at hj'
          simpa using hj'.symm
        subst this
        split at hv
        · rename_i v' hc
          subst hv
          exact ⟨v', hc, absV_rel w v' ho⟩
        · subst hv; simp [undef, Value.oneCell'] at ho
      · simp at hv
    · cases hr
  · simp only [given] at hr; split at hr
    · cases hr; simp at hb
    · cases hr
  · simp only [given] at hr; split at hr
    · cases hr; simp at hb
    · cases hr
/-! ### What the statement's reading tells -/
section
variable {H : Type} {enc : TypeId × Value → H} {P : Program} {w : World} {base : Nat} {spare : Nat → Bool} {held : Bool}
end
theorem zdS {P : Program} {W : World} {b0 : Nat} {t e : TypeId} {v : Value} (ht : P.underlying t = some (.slice e)) (h : Cell.okWide P W .any b0 t v) :
    v = .slice none 0 0 ∨ ∃ b o n c, v = .slice (some ⟨b, o, none⟩) n c ∧ b < W.heap.size ∧ n ≤ 9223372036854775807 := by
  have h2 : Cell.ok P W .any b0 t v := by
    unfold Cell.okWide at h
    rw [ht] at h
    exact h
  unfold Cell.ok at h2
  rw [ht] at h2
  split at h2 <;> simp_all
  rename_i a len cap _
  obtain ⟨h3, h4, _, hsp, row, cells, hsh, _⟩ := h2
  have hb : a.block < W.heap.size := by
    unfold World.shape? at hsh
    cases hg : W.heap[a.block]? with
    | none => rw [hg] at hsh; cases hsh
    | some o => exact (Array.getElem?_eq_some_iff.1 hg).1
  obtain ⟨b, o, sp⟩ := a
  simp only at hsp
  subst hsp
  exact ⟨b, o, len, ⟨rfl, rfl⟩, hb, by omega⟩
section
variable {H : Type} {enc : TypeId × Value → H} {P : Program} {w : World} {base : Nat} {spare : Nat → Bool} {held : Bool}
end
theorem law_end {P : Program} {f : FuncId} {args : List Value} {W : World} (hl : LV id W.heap.size W args args) (h : ACalls P f args (given W) (fun v _ => v = .bool true ∧ True)) :
    Calls P f args.toArray W fun e W' => e = .returned (.bool true) ∧ Below W.heap.size W W' := by
  refine (h.2 W.heap.size id W args (given_rel W) hl).mono ?_
  rintro e w' ⟨v', v, H', ρ', rfl, ⟨rfl, _⟩, R', hV, E⟩
  rw [hV.bool]
  exact ⟨rfl, E.bl⟩
end Go.Abs
end

section
namespace Go.Abs
open Go Go.RowKit
def Rd2 (k : Nat) (H : AH) (v : Value) (ll : List (List Int)) : Prop :=
  (ll = [] ∧ ∃ a c, v = .slice a 0 c ∧ (a = none → c = 0)) ∨ ∃ i o u c r, v = .slice (some ⟨i, o, u⟩) ll.length c ∧ H.row i = some r ∧
    ∀ j, j < ll.length → ∃ x m, r.cells[o + j]? = some x ∧ Rd k H x m (ll.getD j [])
def Fr2 (k ty ty' lo hi : Nat) (H : AH) (v : Value) (ll : List (List Int)) : Prop :=
  (ll = [] ∧ v = .slice none 0 0) ∨ ∃ (i : Nat) (vs : List Value) (b : Nat → Nat), lo ≤ i ∧ i < hi ∧ v = .slice (some ⟨i, 0, some 1⟩) ll.length ll.length ∧ H.row i = some ⟨ty, true, vs⟩ ∧ vs.length = ll.length ∧
    lo ≤ b 0 ∧ b ll.length ≤ hi ∧ (i < b 0 ∨ b ll.length ≤ i) ∧ (∀ j, b j ≤ b (j + 1)) ∧ ∀ j, j < ll.length → ∃ x m, vs[j]? = some x ∧ Fr k ty' (b j) (b (j + 1)) H x m (ll.getD j [])
theorem zaX {b : Nat → Nat} (h : ∀ j, b j ≤ b (j + 1)) {i j : Nat} (hij : i ≤ j) : b i ≤ b j := by
  induction hij with
  | refl => exact Nat.le_refl _
  | step _ ih => exact Nat.le_trans ih (h _)
theorem Fr2.rd {k ty ty' lo hi : Nat} {H : AH} {v : Value} {ll : List (List Int)} (h : Fr2 k ty ty' lo hi H v ll) : Rd2 k H v ll := by
  rcases h with ⟨h1, h2⟩ | ⟨i, vs, b, h1, h2, rfl, hr, hl, _, _, _, _, hj⟩
  · exact .inl ⟨h1, none, 0, h2, fun _ => rfl⟩
  · refine .inr ⟨i, 0, some 1, _, _, rfl, hr, fun j hjl => ?_⟩
    obtain ⟨x, m, hx, hf⟩ := hj j hjl
    exact ⟨x, m, by simpa using hx, hf.rd⟩
theorem Fr2.same {k ty ty' lo hi : Nat} {H H' : AH} {v : Value} {ll : List (List Int)} (h : Fr2 k ty ty' lo hi H v ll) (hs : ∀ i, lo ≤ i → i < hi → H'.row i = H.row i) : Fr2 k ty ty' lo hi H' v ll := by
  rcases h with h | ⟨i, vs, b, h1, h2, hv, hr, hl, h3, h4, h5, h6, hj⟩
  · exact .inl h
  · refine .inr ⟨i, vs, b, h1, h2, hv, by rw [hs i h1 h2]; exact hr, hl, h3, h4, h5, h6, fun j hjl => ?_⟩
    obtain ⟨x, m, hx, hf⟩ := hj j hjl
    have m1 := zaX h6 (Nat.zero_le j)
    have m2 := zaX h6 (show j + 1 ≤ ll.length from hjl)
    exact ⟨x, m, hx, hf.same fun y a1 a2 => hs y (by omega) (by omega)⟩
theorem Fr2.wide {k ty ty' lo hi lo' hi' : Nat} {H : AH} {v : Value} {ll : List (List Int)} (h : Fr2 k ty ty' lo hi H v ll) (a : lo' ≤ lo) (c : hi ≤ hi') : Fr2 k ty ty' lo' hi' H v ll := by
  rcases h with h | ⟨i, vs, b, h1, h2, hv, hr, hl, h3, h4, h5, h6, hj⟩
  · exact .inl h
  · exact .inr ⟨i, vs, b, by omega, by omega, hv, hr, hl, by omega, by omega, h5, h6, hj⟩
theorem Rd2.same {k : Nat} {H H' : AH} {v : Value} {ll : List (List Int)} (h : Rd2 k H v ll) (hs : ∀ i r, H.row i = some r → H'.row i = some r) : Rd2 k H' v ll := by
  rcases h with h | ⟨i, o, u, c, r, hv, hr, hj⟩
  · exact .inl h
  · refine .inr ⟨i, o, u, c, r, hv, hs _ _ hr, fun j hjl => ?_⟩
    obtain ⟨x, m, hx, hf⟩ := hj j hjl
    exact ⟨x, m, hx, hf.same hs⟩
theorem Rd2.len {k : Nat} {H : AH} {v : Value} {ll : List (List Int)} (h : Rd2 k H v ll) (H' : AH) : asSl v (.val (.int .i64 0) H') (fun _ _ _ n _ => .val (.int .i64 (n : Int)) H') = .val (.int .i64 (ll.length : Int)) H' := by
  rcases h with ⟨rfl, a, c, rfl, _⟩ | ⟨i, o, u, c, r, rfl, hr, h3⟩
  · cases a <;> rfl
  · rfl
theorem Rd2.one {k : Nat} {H : AH} {v : Value} {ll : List (List Int)} (h : Rd2 k H v ll) : v.oneCell' = true := by
  rcases h with ⟨_, a, c, rfl, _⟩ | ⟨i, o, u, c, r, rfl, _⟩ <;> rfl
theorem ok_one {r : Row} {v : Value} (h : v.oneCell' = true) : Row.ok r [v] := .inr fun u hu => by simp at hu; rw [hu]; exact h
theorem Rd2.get {k : Nat} {H : AH} {v : Value} {ll : List (List Int)} (h : Rd2 k H v ll) {j : Nat} (hj : j < ll.length) :
    ∃ i o u c r x m, v = .slice (some ⟨i, o, u⟩) ll.length c ∧ H.row i = some r ∧ r.cells[o + j]? = some x ∧ Rd k H x m (ll.getD j []) ∧ Row.ok r [x] := by
  rcases h with ⟨rfl, _⟩ | ⟨i, o, u, c, r, rfl, hr, h3⟩
  · simp at hj
  · obtain ⟨x, m, hx, hf⟩ := h3 j hj
    exact ⟨i, o, u, c, r, x, m, rfl, hr, hx, hf, ok_one hf.one⟩
theorem Rd.lenK1 {n : Nat} {H : AH} {v : Value} {l : List Int} (h : Rd 1 H v n l) : n = l.length := by rw [h.1]; omega
theorem Fr.lenK1 {ty lo hi n : Nat} {H : AH} {v : Value} {l : List Int} (h : Fr 1 ty lo hi H v n l) : n = l.length := by rw [h.1]; omega
def tot (ll : List (List Int)) : Nat := (ll.map List.length).sum
theorem getD_mem {ll : List (List Int)} {a : Nat} (ha : a < ll.length) : ll.getD a [] ∈ ll := by
  rw [List.getD_eq_getElem?_getD, List.getElem?_eq_getElem ha]; exact List.getElem_mem _
theorem zgW {P : Program} {E : TI} {k ty ty' lo hi m : Nat} {H : AH} {v x : Value} {ll : List (List Int)} {l : List Int} {K : Value → AH → Prop} (h : Fr2 k ty ty' lo hi H v ll) (hx : Fr k ty' hi H.next H x m l) (hE : E.size = 1) (hb : E.bytes ≤ 32768) (hn : ll.length + 1 ≤ 4294967296) (hlo : lo ≤ hi) (hhi : hi ≤ H.next)
    (hK : ∀ v' H', H'.next = H.next + 1 → (∀ i, ¬(lo ≤ i ∧ i < hi) → i < H.next → H'.row i = H.row i) → Fr2 k ty ty' lo (H.next + 1) H' v' (ll ++ [l]) → K v' H') :
    runOut P H (appE E ty v [x] 1 H) K := by
  unfold appE
  rw [if_neg (by omega)]
  refine Holds.mp ?_
  rcases h with ⟨rfl, rfl⟩ | ⟨i, vs, b, h1, h2, rfl, hr, hvl, g0, gn, gi, gm, hj⟩ <;> rw [zh5]
  · simp only [zc5, zaE, zaQ, hE]
    refine ⟨⟨by omega, hb⟩, hK _ _ rfl (fun i _ hi => by rw [AH.push_row, if_neg (by omega)]) (.inr ⟨H.next, [x], fun j => if j = 0 then hi else H.next, by omega, by omega, rfl, by rw [AH.push_row, if_pos rfl], rfl, ?_, ?_, .inr ?_, fun j => ?_, fun j hj => ?_⟩)⟩
    · dsimp only; rw [if_pos rfl]; exact hlo
    · dsimp only [List.nil_append, List.length_singleton]; rw [if_neg (by omega)]; omega
    · dsimp only [List.nil_append, List.length_singleton]; rw [if_neg (by omega)]; omega
    · dsimp only; split
      · rw [if_neg (by omega)]; exact hhi
      · rw [if_neg (by omega)]; omega
    · simp only [List.nil_append, List.length_singleton] at hj
      have : j = 0 := by omega
      subst this
      refine ⟨x, m, rfl, ?_⟩
      dsimp only
      rw [if_pos rfl, if_neg (by omega)]
      exact hx.same fun z _ hz => by rw [AH.push_row, if_neg (by omega)]
  · simp only [zbD, hr, zaZ, zaE, Nat.zero_add, hE, Nat.mul_one]
    refine ⟨⟨hn, hb, by omega, .inl rfl⟩, ?_⟩
    rw [if_neg (by omega)]
    simp only [zaE, zaQ]
    refine ⟨by simp, .inl (hK _ _ rfl (fun j hj hj2 => ?_) (.inr ⟨H.next, vs ++ [x], fun j => if j < ll.length then b j else if j = ll.length then hi else H.next, by omega, by omega, ?_, ?_, ?_, ?_, ?_, .inr ?_, fun j => ?_, fun j hjl => ?_⟩))⟩
    · rw [AH.push_row, if_neg (by rw [AH.drop_next]; omega), AH.drop_row, if_neg (by omega)]
    · rw [List.length_append]; rfl
    · rw [AH.push_row, AH.drop_next, if_pos rfl, zdW _ _ hvl.symm]
    · rw [List.length_append, List.length_append, hvl]; rfl
    · dsimp only
      split
      · exact g0
      · split
        · exact hlo
        · omega
    · rw [List.length_append, List.length_singleton]
      dsimp only
      rw [if_neg (by omega), if_neg (by omega)]; omega
    · rw [List.length_append, List.length_singleton]
      dsimp only
      rw [if_neg (by omega), if_neg (by omega)]; omega
    · dsimp only
      by_cases c1 : j + 1 < ll.length
      · rw [if_pos (by omega), if_pos c1]; exact gm j
      · by_cases c2 : j + 1 = ll.length
        · rw [if_pos (by omega), if_neg c1, if_pos c2]
          have := zaX gm (show j ≤ ll.length by omega); omega
        · by_cases c3 : j = ll.length
          · rw [if_neg (by omega), if_pos c3, if_neg c1, if_neg c2]; exact hhi
          · rw [if_neg (by omega), if_neg c3, if_neg c1, if_neg c2]; omega
    · rw [List.length_append, List.length_singleton] at hjl
      have old : ∀ z, lo ≤ z → z < H.next → ¬ z = i → ((H.drop i).push ⟨ty, true, seg vs 0 ll.length ++ [x]⟩).row z = H.row z := fun z _ z2 z3 => by
        rw [AH.push_row, if_neg (by rw [AH.drop_next]; omega), AH.drop_row, if_neg z3]
      by_cases c : j < ll.length
      · obtain ⟨y, q, hy, hf⟩ := hj j c
        refine ⟨y, q, by rw [List.getElem?_append_left (by omega), hy], ?_⟩
        have e1 : (ll ++ [l]).getD j [] = ll.getD j [] := by simp [List.getD_eq_getElem?_getD, List.getElem?_append_left c]
        rw [e1]
        have c1 := zaX gm (Nat.zero_le j)
        have c2 := zaX gm (show j + 1 ≤ ll.length by omega)
        have f1 : Fr k ty' (b j) (b (j + 1)) ((H.drop i).push ⟨ty, true, seg vs 0 ll.length ++ [x]⟩) y q (ll.getD j []) := hf.same fun z z1 z2 => old z (by omega) (by omega) (by omega)
        dsimp only
        rw [if_pos c]
        by_cases c3 : j + 1 < ll.length
        · rw [if_pos c3]; exact f1
        · rw [if_neg c3, if_pos (by omega)]; exact f1.wide (Nat.le_refl _) (by omega)
      · have c4 : j = ll.length := by omega
        subst c4
        refine ⟨x, m, by rw [← hvl, List.getElem?_append_right (Nat.le_refl _)]; simp, ?_⟩
        have e1 : (ll ++ [l]).getD ll.length [] = l := by simp [List.getD_eq_getElem?_getD]
        rw [e1]
        dsimp only
        rw [if_neg (by omega), if_pos rfl, if_neg (by omega), if_neg (by omega)]
        exact hx.same fun z z1 z2 => old z (by omega) z2 (by omega)
theorem zhD (z : List Value) : zeros 2 z = z ++ z := by simp [zeros, List.replicate_succ]
end Go.Abs
end

section
namespace Go.Abs
open Go Go.RowKit
theorem zg5 {w : World} {b j : Nat} {u : Value} (h : w.cell? ⟨b, j, none⟩ = some u) : b < w.heap.size ∧ (given w).row b = some ⟨0, false, absRow w b⟩ ∧ (absRow w b)[j]? = some (absV w.heap.size u) := by
  have h1 := h
  unfold World.cell? at h1
  split at h1
  · rename_i cs t fr he
    have hb : b < w.heap.size := (Array.getElem?_eq_some_iff.1 he).1
    have hk : bsz w b = some cs.size := by simp [bsz, he]
    have h2 : cs[j]? = some u := by simpa using h1
    have h3 : j < cs.size := (Array.getElem?_eq_some_iff.1 h2).1
    refine ⟨hb, by simp [given, hb], ?_⟩
    simp only [absRow, hk, List.getElem?_map]
    rw [List.getElem?_range h3]
    simp only [Option.map_some, h]
  · cases h1
section
variable {H : Type} {enc : TypeId × Value → H} {P : Program} {w : World} {base : Nat} {spare : Nat → Bool} {held : Bool}
end
end Go.Abs
end

section
namespace Go.Abs
open Go Go.RowKit
inductive OT
  | nil
  | one (i : Nat) (r : OT)
  | two (i j : Nat) (ri rj : OT)
  | three (i j k : Nat) (ri rj rk : OT)
def OT.depth : OT → Nat
  | .nil => 0
  | .one _ r => r.depth + 1
  | .two _ _ a b => max a.depth b.depth + 1
  | .three _ _ _ a b c => max a.depth (max b.depth c.depth) + 1
def OT.run : List Nat → OT → OT
  | [], r => r
  | i :: is, r => .one i (OT.run is r)
def okOT (ops : Array Oper) : OT → Array Bool → Bool
  | .nil, listed => (Region.ready .any ops listed).isEmpty
  | .one i r, listed =>
    (match ops[i]? with
     | some o => if za0 o.op = true then (Region.ready .any ops listed).contains i && Region.free .any ops listed i else Region.ready .any ops listed == [i]
     | none => false) && okOT ops r (listed.setIfInBounds i true)
  | .two i j a b, listed => Region.ready .any ops listed == [i, j] && okOT ops a (listed.setIfInBounds i true) && okOT ops b (listed.setIfInBounds j true)
  | .three i j k a b c, listed => Region.ready .any ops listed == [i, j, k] && okOT ops a (listed.setIfInBounds i true) && okOT ops b (listed.setIfInBounds j true) && okOT ops c (listed.setIfInBounds k true)
def awpT (P : Program) (ops : Array Oper) (Q : T → AH → Prop) : (o : OT) → T → AH → (fun _ => Prop) (ops, Q, o)
  | .nil, t, H => Q t H
  | .one i r, t, H => stepI P ops (awpT P ops Q r) i (ops.toList[i]?) t H
  | .two i j a b, t, H => stepI P ops (awpT P ops Q a) i (ops.toList[i]?) t H ∧ stepI P ops (awpT P ops Q b) j (ops.toList[j]?) t H
  | .three i j k a b c, t, H => stepI P ops (awpT P ops Q a) i (ops.toList[i]?) t H ∧ stepI P ops (awpT P ops Q b) j (ops.toList[j]?) t H ∧ stepI P ops (awpT P ops Q c) k (ops.toList[k]?) t H
theorem stepI_a {P : Program} {ops : Array Oper} {K : T → AH → Prop} {i : Nat} {t : T} {H : AH} (h : stepI P ops K i (ops.toList[i]?) t H) :
    aStep P ops.toList i t H fun t' H' => ((∃ o, ops.toList[i]? = some o ∧ za0 o.op = true) ∨ sinkB ops i = true ∨ LE H H') ∧ K t' H' := by
  unfold aStep
  cases e : ops.toList[i]? with
  | none => rw [e] at h; exact h.elim
  | some o =>
    rw [e] at h
    unfold stepI at h
    simp only
    cases hg : o.guard with
    | none => simp only [hg] at h ⊢; exact zaG (fun v H' k => ⟨k.1.imp (fun q => ⟨o, rfl, q⟩) id, k.2⟩) _ h
    | some g => simp only [hg] at h ⊢; exact zb7 h (zaG (fun v H' k => ⟨k.1.imp (fun q => ⟨o, rfl, q⟩) id, k.2⟩) _) (fun k => ⟨.inr (.inr (LE.refl H)), k⟩)
theorem ze6 {P : Program} {ops : Array Oper} {K : T → AH → Prop} {i : Nat} {t : T} {H : AH} (h : stepI P ops K i (ops.toList[i]?) t H) :
    aStep P ops.toList i t H fun t' H' => (sinkB ops i = true ∨ LE H H') ∧ K t' H' := by
  cases e : ops.toList[i]? with
  | none => rw [e] at h; exact h.elim
  | some o =>
    by_cases hq : za0 o.op = true
    · have ho : ops[i]? = some o := by simpa using e
      obtain ⟨v, hy, hk⟩ := zbZ ho hq (stepI_a h)
      exact hy.step ho hq ⟨.inr (LE.refl _), hk.2⟩
    · refine zaU (stepI_a h) fun t' H' hk => ⟨?_, hk.2⟩
      rcases hk.1 with ⟨o', e', q'⟩ | k
      · rw [e] at e'; cases e'; exact absurd q' hq
      · exact k
theorem zcB {P : Program} {ops : Array Oper} {Q : T → AH → Prop} : ∀ (ot : OT) (listed : Array Bool) (t : T) (H : AH) (f : Nat), ot.depth ≤ f → Closed ops listed → okOT ops ot listed = true → awpT P ops Q ot t H → AAny P ops Q f listed t H
  | .nil, listed, t, H, f, _, _, hok, h => by
    have hr : Region.ready .any ops listed = [] := by simpa [okOT] using hok
    cases f with
    | zero => exact ⟨hr, h⟩
    | succ f => exact ⟨fun _ => h, by rw [hr]; simp⟩
  | .one i r, listed, t, H, 0, hl, _, _, _ => by simp [OT.depth] at hl
  | .two i j a b, listed, t, H, 0, hl, _, _, _ => by simp [OT.depth] at hl
  | .three i j k a b c, listed, t, H, 0, hl, _, _, _ => by simp [OT.depth] at hl
  | .one i r, listed, t, H, f + 1, hl, hc, hok, h => by
    simp only [okOT, Bool.and_eq_true] at hok
    simp only [OT.depth] at hl
    obtain ⟨h1, h2⟩ := hok
    unfold awpT at h
    cases ho : ops[i]? with
    | none => simp [ho] at h1
    | some o =>
      simp only [ho] at h1
      split at h1
      · rename_i hq
        simp only [Bool.and_eq_true] at h1
        obtain ⟨hr, hfr⟩ := h1
        have hr' : i ∈ Region.ready .any ops listed := by simpa using hr
        obtain ⟨v, hy, hk⟩ := zbZ ho hq (ze6 h)
        exact zgA ho hq f listed t H hc (Region.free_spec ho hfr) hr' hy (zcB r _ _ H f (by omega) (hc.set hr') h2 hk.2)
      · have hr : Region.ready .any ops listed = [i] := by simpa using h1
        refine ⟨fun h0 => (by rw [hr] at h0; cases h0), fun j hj => ?_⟩
        have hji : j = i := by rw [hr] at hj; simpa using hj
        subst hji
        exact zaU (ze6 h) fun t' H' hk => ⟨hk.1, zcB r _ t' H' f (by omega) (hc.set hj) h2 hk.2⟩
  | .two i j a b, listed, t, H, f + 1, hl, hc, hok, h => by
    simp only [okOT, Bool.and_eq_true] at hok
    simp only [OT.depth] at hl
    obtain ⟨⟨h1, h2⟩, h3⟩ := hok
    unfold awpT at h
    have hr : Region.ready .any ops listed = [i, j] := by simpa using h1
    refine ⟨fun h0 => (by rw [hr] at h0; cases h0), fun x hx => ?_⟩
    have hx2 : x = i ∨ x = j := by rw [hr] at hx; simpa using hx
    rcases hx2 with rfl | rfl
    · exact zaU (ze6 h.1) fun t' H' hk => ⟨hk.1, zcB a _ t' H' f (by omega) (hc.set hx) h2 hk.2⟩
    · exact zaU (ze6 h.2) fun t' H' hk => ⟨hk.1, zcB b _ t' H' f (by omega) (hc.set hx) h3 hk.2⟩
  | .three i j k a b c, listed, t, H, f + 1, hl, hc, hok, h => by
    simp only [okOT, Bool.and_eq_true] at hok
    simp only [OT.depth] at hl
    obtain ⟨⟨⟨h1, h2⟩, h3⟩, h4⟩ := hok
    unfold awpT at h
    have hr : Region.ready .any ops listed = [i, j, k] := by simpa using h1
    refine ⟨fun h0 => (by rw [hr] at h0; cases h0), fun x hx => ?_⟩
    have hx2 : x = i ∨ x = j ∨ x = k := by rw [hr] at hx; simpa using hx
    rcases hx2 with rfl | rfl | rfl
    · exact zaU (ze6 h.1) fun t' H' hk => ⟨hk.1, zcB a _ t' H' f (by omega) (hc.set hx) h2 hk.2⟩
    · exact zaU (ze6 h.2.1) fun t' H' hk => ⟨hk.1, zcB b _ t' H' f (by omega) (hc.set hx) h3 hk.2⟩
    · exact zaU (ze6 h.2.2) fun t' H' hk => ⟨hk.1, zcB c _ t' H' f (by omega) (hc.set hx) h4 hk.2⟩
theorem draw_tree {P : Program} {id : Nat} {ops : Array Oper} {Q : Exit → T → AH → Prop} {t : T} {H : AH} (ot : OT) (hm : P.follows .mixedOrders = true) (hok : okOT ops ot (Array.replicate ops.size false) = true) (hl : ot.depth ≤ ops.size)
    (h : awpT P ops (Q .normal) ot t H) : awp P (.region id ops true) Q t H := by
  intro base ρ w tmps QC hS hd hQ
  have hA := zcB ot _ t H ops.size hl ⟨by simp, fun j oj hj hl => by rw [zb4] at hl; cases hl⟩ hok h
  refine wp_region_any hm (AAny_ok ops.size _ t H ρ w.drew tmps hA ⟨hS.1.drew, hS.2.ext (zc9 (base := base) (H := H) w)⟩ ?_ fun t' H' ρ' w' tmps' hq hs he hz => ?_)
  · intro o ho i hi
    have := List.all_eq_true.1 hd o ho
    simp only [hi, decide_eq_true_eq] at this
    exact this
  · exact hQ .normal t' H' ρ' w' tmps' hq hs ((zc9 (base := base) (H := H) (ρ := ρ) w).trans he) hz
theorem zbJ (P : Program) (ops : Array Oper) (Q : T → AH → Prop) (t : T) (H : AH) : awpT P ops Q .nil t H = Q t H := (rfl)
theorem zbK (P : Program) (ops : Array Oper) (Q : T → AH → Prop) (i : Nat) (r : OT) (t : T) (H : AH) : awpT P ops Q (.one i r) t H = stepI P ops (awpT P ops Q r) i (ops.toList[i]?) t H := (rfl)
theorem zaS (P : Program) (ops : Array Oper) (Q : T → AH → Prop) (r : OT) (t : T) (H : AH) : awpT P ops Q (OT.run [] r) t H = awpT P ops Q r t H := (rfl)
theorem zaN (P : Program) (ops : Array Oper) (Q : T → AH → Prop) (i : Nat) (is : List Nat) (r : OT) (t : T) (H : AH) : awpT P ops Q (OT.run (i :: is) r) t H = stepI P ops (awpT P ops Q (OT.run is r)) i (ops.toList[i]?) t H := (rfl)
theorem awpT_two {P : Program} {ops : Array Oper} {Q : T → AH → Prop} {i j : Nat} {a b : OT} {t : T} {H : AH} (h1 : stepI P ops (awpT P ops Q a) i (ops.toList[i]?) t H) (h2 : stepI P ops (awpT P ops Q b) j (ops.toList[j]?) t H) : awpT P ops Q (.two i j a b) t H := ⟨h1, h2⟩
@[congr] theorem awpT_congr {P : Program} {ops : Array Oper} {o : OT} {Q : T → AH → Prop} {t t' : T} {H H' : AH} (h : t = t') (k : H = H') : awpT P ops Q o t H = awpT P ops Q o t' H' := by rw [h, k]
theorem zb9 {v : Value} (h : v.oneCell' = true) (f : List Value → Out) : zcI v f = f [v] := by
  cases v <;> first | rfl | (simp [Value.oneCell'] at h)
theorem awp_cutQ {P : Program} {a : Code} {Q : Exit → T → AH → Prop} {N : T → AH → Prop} {t : T} {H : AH} (M : T → AH → Prop) (h : awp P a (seqQ M Q) t H) (k : ∀ t H, M t H → N t H) : awp P a (seqQ N Q) t H :=
  zbP a _ _ t H (zd2 k fun _ _ _ h => h) h
def Sc (H : AH) : Prop := ∀ i r, H.row i = some r → i < H.next
theorem Sc.push {H : AH} (h : Sc H) (r : Row) : Sc (H.push r) := by
  intro i x hx
  rw [AH.push_row] at hx
  rw [AH.push_next]
  split at hx
  · omega
  · have := h i x hx; omega
theorem Sc.le {H : AH} (h : Sc H) (r : Row) : LE H (H.push r) := ⟨Nat.le_succ _, fun i x hx => by rw [AH.push_row, if_neg (by have := h i x hx; omega)]; exact hx⟩
theorem ACalls.sc {P : Program} {f : FuncId} {args : List Value} {H : AH} {R : Value → AH → Prop} (h : ACalls P f args H R) : ACalls P f args H (fun v H' => R v H' ∧ Sc H') := by
  refine ⟨h.1, fun base ρ w args' hR hL => (h.2 base ρ w args' hR hL).mono ?_⟩
  rintro e w' ⟨v', v, H', ρ', rfl, hv, R', r⟩
  exact ⟨v', v, H', ρ', rfl, ⟨hv, R'.scope⟩, R', r⟩
end Go.Abs
end

section
namespace Go.Abs
open Go Go.RowKit
theorem Fr2.setF {ty ty' lo hi : Nat} {H : AH} {v : Value} {ll : List (List Int)} (h : Fr2 1 ty ty' lo hi H v ll) {j : Nat} (hj : j < ll.length) (hne : 0 < (ll.getD j []).length) :
    ∃ i vs i6, v = .slice (some ⟨i, 0, some 1⟩) ll.length ll.length ∧ lo ≤ i ∧ i < hi ∧ H.row i = some ⟨ty, true, vs⟩ ∧ vs[j]? = some (.slice (some ⟨i6, 0, some 1⟩) (ll.getD j []).length (ll.getD j []).length) ∧ lo ≤ i6 ∧ i6 < hi ∧ ¬ i = i6 ∧ H.row i6 = some ⟨ty', true, ints (ll.getD j [])⟩ ∧
      ∀ l' : List Int, l'.length = (ll.getD j []).length → Fr2 1 ty ty' lo hi (H.setCells i6 (ints l')) v (ll.set j l') := by
  rcases h with ⟨rfl, _⟩ | ⟨i, vs, b, h1, h2, rfl, hr, hl, g0, gn, gi, gm, hh⟩
  · simp at hj
  · obtain ⟨x, m, hx, hf⟩ := hh j hj
    have hm := hf.lenK1
    have m1 := zaX gm (Nat.zero_le j)
    have m2 := zaX gm (show j + 1 ≤ ll.length from hj)
    obtain ⟨i6, k1, k2, rfl, k3⟩ := hf.get (by omega)
    rw [hm] at hx
    refine ⟨i, vs, i6, rfl, h1, h2, hr, hx, by omega, by omega, by omega, k3, fun l' hl' => ?_⟩
    refine .inr ⟨i, vs, b, h1, h2, by rw [List.length_set], by rw [AH.setCells_row, if_neg (by omega)]; exact hr, by rw [List.length_set]; exact hl, g0, by rw [List.length_set]; exact gn, by rw [List.length_set]; exact gi, gm, fun j' hj' => ?_⟩
    rw [List.length_set] at hj'
    by_cases e : j' = j
    · subst e
      refine ⟨_, (ll.getD j' []).length, hx, ?_⟩
      have e1 : (ll.set j' l').getD j' [] = l' := by rw [List.getD_eq_getElem?_getD, List.getElem?_set_self hj]; rfl
      rw [e1]
      exact ⟨by omega, .inr ⟨i6, k1, k2, rfl, by rw [AH.setCells_row, if_pos rfl, k3]; rfl⟩⟩
    · obtain ⟨x', m', hx', hf'⟩ := hh j' hj'
      have e1 : (ll.set j l').getD j' [] = ll.getD j' [] := by rw [List.getD_eq_getElem?_getD, List.getElem?_set_ne (by omega), ← List.getD_eq_getElem?_getD]
      refine ⟨x', m', hx', ?_⟩
      rw [e1]
      refine hf'.same fun z z1 z2 => ?_
      rw [AH.setCells_row, if_neg]
      rcases Nat.lt_or_gt_of_ne e with hlt | hgt
      · have := zaX gm (show j' + 1 ≤ j from hlt); omega
      · have := zaX gm (show j + 1 ≤ j' from hgt); omega
theorem Sc.set {H : AH} (h : Sc H) (i : Nat) (cs : List Value) : Sc (H.setCells i cs) := by
  intro j x hx
  rw [AH.setCells_row] at hx
  rw [AH.setCells_next]
  split at hx
  · rename_i e
    subst e
    cases hr : H.row j with
    | none => rw [hr] at hx; cases hx
    | some r => exact h j r hr
  · exact h j x hx
end Go.Abs
end

section
namespace Go.Abs
open Go Go.RowKit
theorem Sc.drop {H : AH} (h : Sc H) (i : Nat) : Sc (H.drop i) := by
  intro j x hx
  rw [AH.drop_row] at hx
  rw [AH.drop_next]
  split at hx
  · cases hx
  · exact h j x hx
theorem appE_frS {P : Program} {E : TI} {k ty lo hi n c : Nat} {H : AH} {v : Value} {l m : List Int} {K : Value → AH → Prop} (h : Fr k ty lo hi H v n l) (hk : E.size = k) (hk0 : 0 < k) (hm : m.length = c * k) (hc : 0 < c) (hb : E.bytes ≤ 32768) (hn : n + c ≤ 4294967296) (hhi : hi ≤ H.next) (hS : Sc H)
    (hK : ∀ v' H', H'.next = H.next + 1 → (∀ i, ¬(lo ≤ i ∧ i < hi) → i < H.next → H'.row i = H.row i) → Sc H' → Fr k ty H.next (H.next + 1) H' v' (n + c) (l ++ m) → K v' H') :
    runOut P H (appE E ty v (ints m) c H) K := by
  subst hk
  have hl := h.1
  unfold appE
  rw [if_neg (by omega)]
  rcases h.2 with ⟨rfl, rfl⟩ | ⟨i, h1, h2, rfl, hr⟩
  · simp only [zc5, zaE, zaQ]
    have : l = [] := List.eq_nil_of_length_eq_zero (by omega)
    subst this
    refine ⟨⟨by omega, hb⟩, hK _ _ rfl (fun i _ hi => by rw [AH.push_row, if_neg (by omega)]) (hS.push _) ⟨by simp [hm], .inr ⟨H.next, by omega, by omega, by simp, by rw [AH.push_row, if_pos rfl]; rfl⟩⟩⟩
  · simp only [zbD, hr, zaZ, zaE, Nat.zero_add, za1, hl]
    refine ⟨⟨by omega, hb, Nat.le_refl _, .inl rfl⟩, ?_⟩
    rw [if_neg (by rw [Nat.add_mul]; have := Nat.mul_pos hc hk0; omega)]
    simp only [zaE, zaQ]
    refine ⟨⟨trivial, trivial, hk0, trivial, trivial⟩, .inl (hK _ _ rfl (fun j hj hj2 => ?_) ((hS.drop i).push _) ⟨by simp [hm, hl, Nat.add_mul], .inr ⟨H.next, by omega, by omega, rfl, ?_⟩⟩)⟩
    · rw [AH.push_row, if_neg (by rw [AH.drop_next]; omega), AH.drop_row, if_neg (by omega)]
    · rw [AH.push_row, AH.drop_next, if_pos rfl, zdW _ _ (by rw [za1, hl]), zaK]
end Go.Abs
end

section
namespace Go.Abs
open Go Go.RowKit
def Sld (k : Nat) (v : Value) (n : Nat) : Prop := v = .slice none 0 0 ∨ (∃ i o c, v = .slice (some ⟨i, o, some k⟩) n c) ∨ ∃ i o c, v = .slice (some ⟨i, o, none⟩) n c ∧ n ≤ c
structure Rs (k : Nat) (H : AH) (v : Value) (n : Nat) (l : List Int) : Prop where
  rd : Rd k H v n l
  sl : Sld k v n
theorem Rs.same {k n : Nat} {H H' : AH} {v : Value} {l : List Int} (h : Rs k H v n l) (hs : ∀ i r, H.row i = some r → H'.row i = some r) : Rs k H' v n l := ⟨h.rd.same hs, h.sl⟩
theorem Fr.rs {k ty lo hi n : Nat} {H : AH} {v : Value} {l : List Int} (h : Fr k ty lo hi H v n l) : Rs k H v n l := by
  refine ⟨h.rd, ?_⟩
  rcases h.2 with ⟨_, h2⟩ | ⟨i, _, _, hv, _⟩
  · exact .inl h2
  · exact .inr (.inl ⟨i, 0, n, hv⟩)
theorem Rs.cut {k n a b : Nat} {H : AH} {v : Value} {l : List Int} (h : Rs k H v n l) {lo hi : Option Int} (ha : lo.getD 0 = (a : Int)) (hb : hi.getD (n : Int) = (b : Int)) (hab : a ≤ b) (hbn : b ≤ n) :
    ∃ w, (∀ (P : Program) (E : TI) (K : Value → AH → Prop) (H' : AH), E.size = k → K w H' → runOut P H' (sliceE E v lo hi none H') K) ∧ Rs k H w (b - a) ((l.drop (a * k)).take ((b - a) * k)) := by
  obtain ⟨hl, hr⟩ := h.rd
  have hlen : ((l.drop (a * k)).take ((b - a) * k)).length = (b - a) * k := by
    rw [List.length_take, List.length_drop, hl, ← Nat.sub_mul]
    exact Nat.min_eq_left (Nat.mul_le_mul_right k (by omega))
  have hmul : a * k + (b - a) * k ≤ n * k := by rw [← Nat.add_mul]; exact Nat.mul_le_mul_right k (by omega)
  have key : ∀ (i o : Nat) (u : Option Nat) (c o' c' : Nat) (r : Row), (b - a = 0 ∨ o' = o + a * k) → H.row i = some r → o + n * k ≤ r.cells.length → seg r.cells o (n * k) = ints l →
      Rd k H (.slice (some ⟨i, o', u⟩) (b - a) c') (b - a) ((l.drop (a * k)).take ((b - a) * k)) := by
    intro i o u c o' c' r ho hrow hle hseg
    refine ⟨hlen, ?_⟩
    rcases Nat.eq_zero_or_pos (b - a) with h0 | h0
    · refine .inl ⟨h0, _, _, by rw [h0], fun h => by cases h⟩
    · obtain rfl : o' = o + a * k := by rcases ho with ho | ho <;> omega
      refine .inr ⟨i, _, u, c', r, rfl, hrow, by omega, ?_⟩
      rw [← zfD, ← hseg]
      apply List.ext_getElem?
      intro x
      simp only [seg, List.getElem?_take, List.getElem?_drop]
      by_cases hx : x < (b - a) * k
      · rw [if_pos hx, if_pos hx, if_pos (by omega), Nat.add_assoc]
      · rw [if_neg hx, if_neg hx]
  rcases h.sl with rfl | ⟨i, o, c, rfl⟩ | ⟨i, o, c, rfl, hc⟩
  · have hn : n = 0 := by
      rcases hr with ⟨h0, _⟩ | ⟨_, _, _, _, _, hv, _⟩
      · exact h0
      · cases hv
    subst hn
    obtain rfl : b = 0 := by omega
    obtain rfl : a = 0 := by omega
    refine ⟨.slice none 0 0, fun P E K H' hE hK => ?_, ⟨⟨hlen, .inl ⟨rfl, none, 0, rfl, fun _ => rfl⟩⟩, .inl rfl⟩⟩
    unfold sliceE
    rw [if_neg (by simp)]
    simp only [zc5, zaE, zaQ]
    refine ⟨⟨ha, ?_, rfl⟩, hK⟩
    cases hi with
    | none => rfl
    | some x => simpa using hb
  · refine ⟨.slice (some ⟨i, o + a * k, some k⟩) (b - a) (b - a), fun P E K H' hE hK => ?_, ⟨?_, .inr (.inl ⟨i, _, _, rfl⟩)⟩⟩
    · unfold sliceE
      rw [if_neg (by simp)]
      simp only [zbD, zaE, zaQ, ha, hb, Int.toNat_natCast, hE]
      exact ⟨⟨by omega, by omega, by omega, trivial⟩, hK⟩
    · rcases hr with ⟨h0, a', c', hv, _⟩ | ⟨i', o', u', c', r, hv, hrow, hle, hseg⟩
      · obtain rfl : b = 0 := by omega
        obtain rfl : a = 0 := by omega
        exact ⟨hlen, .inl ⟨rfl, _, _, rfl, fun h => by cases h⟩⟩
      · simp only [Value.slice.injEq, Option.some.injEq, Addr.mk.injEq] at hv
        obtain ⟨⟨rfl, rfl, rfl⟩, _, rfl⟩ := hv
        exact key i o (some k) c _ _ r (.inr rfl) hrow hle hseg
  · refine ⟨.slice (some ⟨i, if (c : Int) = (a : Int) then o else o + a * k, none⟩) (b - a) (c - a), fun P E K H' hE hK => ?_, ⟨?_, .inr (.inr ⟨i, _, _, rfl, by omega⟩)⟩⟩
    · unfold sliceE
      rw [if_neg (by simp)]
      have e0 : ((none : Option Int).getD (c : Int)) = (c : Int) := rfl
      simp only [zbD, zaE, zaQ, ha, hb, e0, Int.toNat_natCast, hE]
      exact ⟨⟨by omega, by omega, by omega, Int.le_refl _⟩, hK⟩
    · rcases hr with ⟨h0, a', c', hv, _⟩ | ⟨i', o', u', c', r, hv, hrow, hle, hseg⟩
      · obtain rfl : b = 0 := by omega
        obtain rfl : a = 0 := by omega
        exact ⟨hlen, .inl ⟨rfl, _, _, rfl, fun h => by cases h⟩⟩
      · simp only [Value.slice.injEq, Option.some.injEq, Addr.mk.injEq] at hv
        obtain ⟨⟨rfl, rfl, rfl⟩, _, rfl⟩ := hv
        refine key i o none c _ _ r ?_ hrow hle hseg
        split
        · left; omega
        · right; rfl
end Go.Abs
end

section
namespace Go.Abs
open Go Go.RowKit
end Go.Abs
end

section
namespace Go.Abs
open Go Go.RowKit
structure Th where
  p : AH → (Nat → Prop) → Prop
  loc : ∀ (H H' : AH) (S S' : Nat → Prop), (∀ i, S i → S' i) → (∀ i r, S i → H.row i = some r → H'.row i = some r) → p H S → p H' S'
def Th.sl (k : Nat) (ty : TypeId) (v : Value) (n : Nat) (vs : List Value) : Th where
  p := fun H S => vs.length = n * k ∧ ((n = 0 ∧ v = .slice none 0 0) ∨ ∃ i, S i ∧ v = .slice (some ⟨i, 0, some k⟩) n n ∧ H.row i = some ⟨ty, true, vs⟩)
  loc := fun H H' S S' hS hr h => ⟨h.1, h.2.imp id fun ⟨i, h1, h2, h3⟩ => ⟨i, hS i h1, h2, hr i _ h1 h3⟩⟩
def Th.row (i : Nat) (r : Row) : Th where
  p := fun H S => S i ∧ H.row i = some r
  loc := fun H H' S S' hS hr h => ⟨hS i h.1, hr i r h.1 h.2⟩
def Th.no : Th where
  p := fun _ _ => True
  loc := fun _ _ _ _ _ _ _ => trivial
def Th.sl2 {α : Type} (f : α → Value) (ty ty' : TypeId) (v : Value) (ll : List (List α)) : Th where
  p := fun H S => (ll = [] ∧ v = .slice none 0 0) ∨ ∃ (i : Nat) (vs : List Value) (o : Nat → Nat), S i ∧ o i = 0 ∧ v = .slice (some ⟨i, 0, some 1⟩) ll.length ll.length ∧ H.row i = some ⟨ty, true, vs⟩ ∧ vs.length = ll.length ∧
    ∀ j, j < ll.length → ∃ x, vs[j]? = some x ∧ (Th.sl 1 ty' x (ll.getD j []).length ((ll.getD j []).map f)).p H (fun z => S z ∧ o z = j + 1)
  loc := fun H H' S S' hS hr h => h.imp id fun ⟨i, vs, o, h1, h2, h3, h4, h5, h6⟩ => ⟨i, vs, o, hS i h1, h2, h3, hr i _ h1 h4, h5, fun j hj => by
    obtain ⟨x, hx, hp⟩ := h6 j hj
    exact ⟨x, hx, (Th.sl 1 ty' x _ _).loc H H' _ _ (fun z hz => ⟨hS z hz.1, hz.2⟩) (fun z r hz => hr z r hz.1) hp⟩⟩
structure Ow (B H : AH) (L : List Th) : Prop where
  sc : Sc H
  next : B.next ≤ H.next
  low : ∀ i, i < B.next → H.row i = B.row i
  own : ∃ o : Nat → Nat, ∀ (k : Nat) (p : Th), L[k]? = some p → p.p H (fun i => B.next ≤ i ∧ i < H.next ∧ o i = k)
theorem Ow.refl {H : AH} (h : Sc H) : Ow H H [] := ⟨h, Nat.le_refl _, fun _ _ => rfl, fun _ => 0, fun k p hk => by simp at hk⟩
theorem Ow.up {B H : AH} {L : List Th} (h : Ow B H L) : Up B.next B H := ⟨h.next, h.low⟩
theorem Ow.old {B H : AH} {L : List Th} (h : Ow B H L) (hs : ∀ i r, B.row i = some r → i < B.next) : ∀ i r, B.row i = some r → H.row i = some r := fun i r hr => by rw [h.low i (hs i r hr)]; exact hr
theorem set_get {L : List Th} {k j : Nat} {p p' q : Th} (hk : L[k]? = some p) (h : (L.set k p')[j]? = some q) : (j = k ∧ q = p') ∨ (j ≠ k ∧ L[j]? = some q) := by
  rw [List.getElem?_set] at h
  by_cases e : k = j
  · subst e
    rw [if_pos rfl, if_pos (List.getElem?_eq_some_iff.1 hk).1] at h
    exact .inl ⟨rfl, (Option.some.inj h).symm⟩
  · rw [if_neg e] at h
    exact .inr ⟨fun h => e h.symm, h⟩
def ownF (N : Nat) (a b : Nat → Nat) (i : Nat) : Nat := if N ≤ i then a i else b i
theorem zi2 {N i : Nat} (a b : Nat → Nat) (h : N ≤ i) : ownF N a b i = a i := by unfold ownF; rw [if_pos h]
theorem zhJ {N i : Nat} (a b : Nat → Nat) (h : i < N) : ownF N a b i = b i := by unfold ownF; rw [if_neg (by omega)]
theorem Ow.upd {B H H' : AH} {L : List Th} (h : Ow B H L) {k : Nat} {p p' : Th} (hk : L[k]? = some p) (hn : H.next ≤ H'.next) (hs : Sc H')
    (hp : ∀ S, (∀ i, S i → B.next ≤ i ∧ i < H.next) → p.p H S → (∀ i, i < H.next → ¬ S i → H'.row i = H.row i) ∧ ∀ S' : Nat → Prop, (∀ i, S i → S' i) → (∀ i, H.next ≤ i → i < H'.next → S' i) → p'.p H' S') :
    Ow B H' (L.set k p') := by
  obtain ⟨o, ho⟩ := h.own
  obtain ⟨h1, h2⟩ := hp _ (fun i hi => ⟨hi.1, hi.2.1⟩) (ho k p hk)
  have hb := h.next
  refine ⟨hs, Nat.le_trans hb hn, fun i hi => by rw [h1 i (by omega) (fun hh => by omega), h.low i hi], ownF H.next (fun _ => k) o, fun j q hj => ?_⟩
  rcases set_get hk hj with ⟨rfl, rfl⟩ | ⟨hne, hq⟩
  · refine h2 _ (fun i hi => ⟨hi.1, by omega, ?_⟩) fun i i1 i2 => ⟨by omega, i2, ?_⟩
    · rw [zhJ _ _ hi.2.1]; exact hi.2.2
    · rw [zi2 _ _ i1]
  · refine q.loc H H' _ _ (fun i hi => ⟨hi.1, by omega, ?_⟩) (fun i r hi hr => ?_) (ho j q hq)
    · rw [zhJ _ _ hi.2.1]; exact hi.2.2
    · rw [h1 i (by omega) (fun hh => hne (hi.2.2.symm.trans hh.2.2)), hr]
theorem Ow.add {B H H' : AH} {L : List Th} (h : Ow B H L) (p' : Th) (hn : H.next ≤ H'.next) (hs : Sc H') (hr : ∀ i, i < H.next → H'.row i = H.row i)
    (hp : ∀ S : Nat → Prop, (∀ i, H.next ≤ i → i < H'.next → S i) → p'.p H' S) : Ow B H' (L ++ [p']) := by
  obtain ⟨o, ho⟩ := h.own
  have hb := h.next
  refine ⟨hs, Nat.le_trans hb hn, fun i hi => by rw [hr i (by omega), h.low i hi], ownF H.next (fun _ => L.length) o, fun j q hj => ?_⟩
  by_cases hjl : j < L.length
  · rw [List.getElem?_append_left hjl] at hj
    refine q.loc H H' _ _ (fun i hi => ⟨hi.1, by omega, ?_⟩) (fun i r hi hrr => by rw [hr i hi.2.1, hrr]) (ho j q hj)
    rw [zhJ _ _ hi.2.1]; exact hi.2.2
  · rw [List.getElem?_append_right (by omega)] at hj
    have hj0 : j = L.length := by
      have := (List.getElem?_eq_some_iff.1 hj).1
      simp at this; omega
    subst hj0
    simp at hj
    subst hj
    refine hp _ fun i i1 i2 => ⟨by omega, i2, ?_⟩
    rw [zi2 _ _ i1]
theorem Ow.call {B H H' : AH} {L M : List Th} (h : Ow B H L) (k : Ow H H' M) : Ow B H' (L ++ M) := by
  obtain ⟨o, ho⟩ := h.own
  obtain ⟨u, hu⟩ := k.own
  have hb := h.next
  have hn := k.next
  refine ⟨k.sc, Nat.le_trans hb hn, fun i hi => by rw [k.low i (by omega), h.low i hi], ownF H.next (fun i => L.length + u i) o, fun j q hj => ?_⟩
  by_cases hjl : j < L.length
  · rw [List.getElem?_append_left hjl] at hj
    refine q.loc H H' _ _ (fun i hi => ⟨hi.1, by omega, ?_⟩) (fun i r hi hrr => by rw [k.low i hi.2.1, hrr]) (ho j q hj)
    rw [zhJ _ _ hi.2.1]; exact hi.2.2
  · rw [List.getElem?_append_right (by omega)] at hj
    refine q.loc H' H' _ _ (fun i hi => ⟨by omega, hi.2.1, ?_⟩) (fun i r _ hr => hr) (hu _ q hj)
    rw [zi2 _ _ hi.1, hi.2.2]; omega
theorem Ow.keep {B H H' : AH} {L : List Th} (h : Ow B H L) (hn : H.next ≤ H'.next) (hs : Sc H') (hr : ∀ i, i < H.next → H'.row i = H.row i) : Ow B H' L := by
  obtain ⟨o, ho⟩ := h.own
  have hb := h.next
  exact ⟨hs, Nat.le_trans hb hn, fun i hi => by rw [hr i (by omega), h.low i hi], o, fun j q hj => q.loc H H' _ _ (fun i hi => ⟨hi.1, by omega, hi.2.2⟩) (fun i r hi hrr => by rw [hr i hi.2.1, hrr]) (ho j q hj)⟩
theorem Ow.sub {B H : AH} {L M : List Th} (h : Ow B H L) (f : Nat → Nat) (hf : ∀ j, j < M.length → L[f j]? = M[j]?) (hi : ∀ i j, i < M.length → j < M.length → f i = f j → i = j) : Ow B H M := by
  obtain ⟨o, ho⟩ := h.own
  classical
  refine ⟨h.sc, h.next, h.low, fun i => if hh : ∃ j, j < M.length ∧ f j = o i then Classical.choose hh else M.length, fun j q hj => ?_⟩
  have hjl := (List.getElem?_eq_some_iff.1 hj).1
  refine q.loc H H _ _ (fun i hh => ⟨hh.1, hh.2.1, ?_⟩) (fun i r _ hr => hr) (ho (f j) q (by rw [hf j hjl]; exact hj))
  have hex : ∃ z, z < M.length ∧ f z = o i := ⟨j, hjl, hh.2.2.symm⟩
  show (if hh : ∃ j, j < M.length ∧ f j = o i then Classical.choose hh else M.length) = j
  rw [dif_pos hex]
  obtain ⟨c1, c2⟩ := Classical.choose_spec hex
  exact hi _ _ c1 hjl (by rw [c2, ← hh.2.2])
theorem Ow.left {B H : AH} {L M : List Th} (h : Ow B H (L ++ M)) : Ow B H L :=
  h.sub (fun j => j) (fun j hj => by rw [List.getElem?_append_left hj]) fun _ _ _ _ h => h
/-! ### Reading -/
theorem Ow.at {B H : AH} {L : List Th} (h : Ow B H L) {k : Nat} {p : Th} (hk : L[k]? = some p) : ∃ S, (∀ i, S i → B.next ≤ i ∧ i < H.next) ∧ p.p H S := by
  obtain ⟨o, ho⟩ := h.own
  exact ⟨_, fun i hi => ⟨hi.1, hi.2.1⟩, ho k p hk⟩
theorem Ow.ne {B H : AH} {L : List Th} (h : Ow B H L) {j k a b : Nat} {p q : Th} (hj : L[j]? = some p) (hk : L[k]? = some q) (hjk : j ≠ k) (ha : ∀ S, p.p H S → S a) (hb : ∀ S, q.p H S → S b) : a ≠ b := by
  obtain ⟨o, ho⟩ := h.own
  have h1 := (ha _ (ho j p hj)).2.2
  have h2 := (hb _ (ho k q hk)).2.2
  intro e
  subst e
  omega
theorem Ow.len {B H : AH} {L : List Th} (h : Ow B H L) (k : Nat) {z n : Nat} {ty : TypeId} {v : Value} {vs : List Value} (hk : L[k]? = some (.sl z ty v n vs)) : vs.length = n * z := by
  obtain ⟨S, _, hp⟩ := h.at hk
  exact hp.1
theorem Ow.get {B H : AH} {L : List Th} (h : Ow B H L) (k : Nat) {z n : Nat} {ty : TypeId} {v : Value} {vs : List Value} (hk : L[k]? = some (.sl z ty v n vs)) (hn : 0 < n) :
    ∃ i, B.next ≤ i ∧ i < H.next ∧ v = .slice (some ⟨i, 0, some z⟩) n n ∧ H.row i = some ⟨ty, true, vs⟩ := by
  obtain ⟨S, hS, hp⟩ := h.at hk
  rcases hp.2 with ⟨h0, _⟩ | ⟨i, h1, h2, h3⟩
  · omega
  · exact ⟨i, (hS i h1).1, (hS i h1).2, h2, h3⟩
theorem Ow.getV {B H : AH} {L : List Th} (h : Ow B H L) (k : Nat) {z n i m c o : Nat} {u : Option Nat} {ty : TypeId} {vs : List Value} (hk : L[k]? = some (.sl z ty (.slice (some ⟨i, o, u⟩) m c) n vs)) :
    B.next ≤ i ∧ i < H.next ∧ H.row i = some ⟨ty, true, vs⟩ := by
  obtain ⟨S, hS, hp⟩ := h.at hk
  rcases hp.2 with ⟨h0, h1⟩ | ⟨i', h1, h2, h3⟩
  · cases h1
  · cases h2
    exact ⟨(hS i h1).1, (hS i h1).2, h3⟩
theorem Ow.rowAt {B H : AH} {L : List Th} (h : Ow B H L) (k : Nat) {i : Nat} {r : Row} (hk : L[k]? = some (.row i r)) : H.row i = some r ∧ B.next ≤ i ∧ i < H.next := by
  obtain ⟨S, hS, hp⟩ := h.at hk
  exact ⟨hp.2, hS i hp.1⟩
theorem Ow.one {B H : AH} {L : List Th} (h : Ow B H L) (k : Nat) {z n : Nat} {ty : TypeId} {v : Value} {vs : List Value} (hk : L[k]? = some (.sl z ty v n vs)) : v.oneCell' = true := by
  obtain ⟨S, _, hp⟩ := h.at hk
  rcases hp.2 with ⟨_, rfl⟩ | ⟨i, _, rfl, _⟩ <;> rfl
theorem Ow.fr {B H : AH} {L : List Th} (h : Ow B H L) (k : Nat) {z n : Nat} {ty : TypeId} {v : Value} {l : List Int} (hk : L[k]? = some (.sl z ty v n (ints l))) : Fr z ty B.next H.next H v n l := by
  obtain ⟨S, hS, hp⟩ := h.at hk
  refine ⟨by have := hp.1; rwa [za1] at this, hp.2.imp id fun ⟨i, h1, h2, h3⟩ => ⟨i, (hS i h1).1, (hS i h1).2, h2, h3⟩⟩
theorem Ow.rd {B H : AH} {L : List Th} (h : Ow B H L) (k : Nat) {z n : Nat} {ty : TypeId} {v : Value} {l : List Int} (hk : L[k]? = some (.sl z ty v n (ints l))) : Rd z H v n l := (h.fr k hk).rd
theorem Ow.lenV {B H : AH} {L : List Th} (h : Ow B H L) (k : Nat) {z n : Nat} {ty : TypeId} {v : Value} {vs : List Value} (hk : L[k]? = some (.sl z ty v n vs)) (H' : AH) : asSl v (.val (.int .i64 0) H') (fun _ _ _ n _ => .val (.int .i64 (n : Int)) H') = .val (.int .i64 (n : Int)) H' := by
  obtain ⟨S, _, hp⟩ := h.at hk
  rcases hp.2 with ⟨rfl, rfl⟩ | ⟨i, _, rfl, _⟩ <;> rfl
theorem sl_mem {z n i m c o : Nat} {u : Option Nat} {ty : TypeId} {vs : List Value} {H : AH} (S : Nat → Prop) (h : (Th.sl z ty (.slice (some ⟨i, o, u⟩) m c) n vs).p H S) : S i := by
  rcases h.2 with ⟨h0, h1⟩ | ⟨i', h1, h2, h3⟩
  · cases h1
  · cases h2; exact h1
/-! ### New things, writing -/
theorem Ow.push {B H : AH} {L : List Th} (h : Ow B H L) (r : Row) : Ow B (H.push r) (L ++ [.row H.next r]) :=
  h.add _ (Nat.le_succ _) (h.sc.push r) (fun i hi => by rw [AH.push_row, if_neg (by omega)]) fun S hS => ⟨hS _ (Nat.le_refl _) (Nat.lt_succ_self _), by rw [AH.push_row, if_pos rfl]⟩
theorem Ow.tmp {B H : AH} {L : List Th} (h : Ow B H L) (r : Row) : Ow B (H.push r) L :=
  h.keep (Nat.le_succ _) (h.sc.push r) fun i hi => by rw [AH.push_row, if_neg (by omega)]
theorem Ow.pushSl {B H : AH} {L : List Th} (h : Ow B H L) {k n : Nat} {ty : TypeId} {vs : List Value} (hl : vs.length = n * k) : Ow B (H.push ⟨ty, true, vs⟩) (L ++ [.sl k ty (.slice (some ⟨H.next, 0, some k⟩) n n) n vs]) :=
  h.add _ (Nat.le_succ _) (h.sc.push _) (fun i hi => by rw [AH.push_row, if_neg (by omega)]) fun S hS => ⟨hl, .inr ⟨H.next, hS _ (Nat.le_refl _) (Nat.lt_succ_self _), rfl, by rw [AH.push_row, if_pos rfl]⟩⟩
theorem Ow.addNil {B H : AH} {L : List Th} (h : Ow B H L) (k : Nat) (ty : TypeId) : Ow B H (L ++ [.sl k ty (.slice none 0 0) 0 []]) :=
  h.add _ (Nat.le_refl _) h.sc (fun _ _ => rfl) fun S hS => ⟨by simp, .inl ⟨rfl, rfl⟩⟩
theorem Ow.put {B H : AH} {L : List Th} (h : Ow B H L) (k : Nat) {z n i m c o : Nat} {u : Option Nat} {ty : TypeId} {vs vs' : List Value} (hk : L[k]? = some (.sl z ty (.slice (some ⟨i, o, u⟩) m c) n vs)) (hl : vs'.length = vs.length) :
    Ow B (H.setCells i vs') (L.set k (.sl z ty (.slice (some ⟨i, o, u⟩) m c) n vs')) := by
  refine h.upd hk (Nat.le_refl _) (h.sc.set _ _) fun S hS hp => ?_
  have hi := sl_mem S hp
  refine ⟨fun j hj hjS => by rw [AH.setCells_row, if_neg (fun e => hjS (by rw [e]; exact hi))], fun S' hS' _ => ?_⟩
  rcases hp.2 with ⟨_, h1⟩ | ⟨i', h1, h2, h3⟩
  · cases h1
  · cases h2
    exact ⟨by rw [hl]; exact hp.1, .inr ⟨i, hS' i h1, rfl, by rw [AH.setCells_row, if_pos rfl, h3]; rfl⟩⟩
theorem Ow.putRow {B H : AH} {L : List Th} (h : Ow B H L) (k : Nat) {i : Nat} {ty : TypeId} {b : Bool} {cs cs' : List Value} (hk : L[k]? = some (.row i ⟨ty, b, cs⟩)) :
    Ow B (H.setCells i cs') (L.set k (.row i ⟨ty, b, cs'⟩)) := by
  refine h.upd hk (Nat.le_refl _) (h.sc.set _ _) fun S hS hp => ?_
  exact ⟨fun j hj hjS => by rw [AH.setCells_row, if_neg (fun e => hjS (by rw [e]; exact hp.1))], fun S' hS' _ => ⟨hS' i hp.1, by rw [AH.setCells_row, if_pos rfl, hp.2]; rfl⟩⟩
theorem Ow.row_sl {B H : AH} {L : List Th} (h : Ow B H L) (k : Nat) {i z n : Nat} {ty : TypeId} {cs : List Value} (hk : L[k]? = some (.row i ⟨ty, true, cs⟩)) (hl : cs.length = n * z) :
    Ow B H (L.set k (.sl z ty (.slice (some ⟨i, 0, some z⟩) n n) n cs)) :=
  h.upd hk (Nat.le_refl _) h.sc fun S hS hp => ⟨fun _ _ _ => rfl, fun S' hS' _ => ⟨hl, .inr ⟨i, hS' i hp.1, rfl, hp.2⟩⟩⟩
theorem Ow.app {P : Program} {E : TI} {z n c : Nat} {ty : TypeId} {B H : AH} {L : List Th} {v : Value} {vs ms : List Value} {K : Value → AH → Prop} (h : Ow B H L) (k : Nat) (hk : L[k]? = some (.sl z ty v n vs)) (hz : E.size = z) (hz0 : 0 < z) (hm : ms.length = c * z) (hc : 0 < c) (hb : E.bytes ≤ 32768) (hn : n + c ≤ 4294967296)
    (hK : ∀ v' H', H'.next = H.next + 1 → Ow B H' (L.set k (.sl z ty v' (n + c) (vs ++ ms))) → K v' H') : runOut P H (appE E ty v ms c H) K := by
  subst hz
  obtain ⟨S, hS, hp⟩ := h.at hk
  have hl := hp.1
  unfold appE
  rw [if_neg (by omega)]
  rcases hp.2 with ⟨rfl, rfl⟩ | ⟨i, h1, rfl, hr⟩
  · simp only [zc5, zaE, zaQ]
    have hv0 : vs = [] := List.eq_nil_of_length_eq_zero (by omega)
    subst hv0
    refine ⟨⟨by omega, hb⟩, hK _ _ rfl (h.upd hk (Nat.le_succ _) (h.sc.push _) fun S hS hp => ⟨fun j hj _ => by rw [AH.push_row, if_neg (by omega)], fun S' _ hN => ⟨by simp [hm], .inr ⟨H.next, hN _ (Nat.le_refl _) (Nat.lt_succ_self _), by simp, by rw [AH.push_row, if_pos rfl]; rfl⟩⟩⟩)⟩
  · simp only [zbD, hr, zaZ, zaE, Nat.zero_add, hl]
    refine ⟨⟨by omega, hb, Nat.le_refl _, .inl rfl⟩, ?_⟩
    rw [if_neg (by rw [Nat.add_mul]; have := Nat.mul_pos hc hz0; omega)]
    simp only [zaE, zaQ]
    refine ⟨⟨trivial, trivial, hz0, trivial, trivial⟩, .inl (hK _ _ rfl (h.upd hk (Nat.le_succ _) ((h.sc.drop i).push _) fun S hS hp => ?_))⟩
    have hi := sl_mem S hp
    refine ⟨fun j hj hjS => ?_, fun S' _ hN => ⟨by simp [hm, hl, Nat.add_mul], .inr ⟨H.next, hN _ (Nat.le_refl _) (Nat.lt_succ_self _), rfl, ?_⟩⟩⟩
    · rw [AH.push_row, if_neg (by rw [AH.drop_next]; omega), AH.drop_row, if_neg (fun e => hjS (by rw [e]; exact hi))]
    · rw [AH.push_row, AH.drop_next, if_pos rfl, zdW _ _ hl.symm]
/-! ### From and to contracts with bounds -/
theorem Ow.of_fr {z n : Nat} {ty : TypeId} {H H' : AH} {v : Value} {l : List Int} (up : Up H.next H H') (sc : Sc H') (h : Fr z ty H.next H'.next H' v n l) : Ow H H' [.sl z ty v n (ints l)] := by
  refine ⟨sc, up.next, up.row, fun _ => 0, fun k p hk => ?_⟩
  have hk0 : k = 0 := by
    have := (List.getElem?_eq_some_iff.1 hk).1
    simp at this; omega
  subst hk0
  simp at hk
  subst hk
  exact ⟨by rw [za1]; exact h.1, h.2.imp id fun ⟨i, h1, h2, h3, h4⟩ => ⟨i, ⟨h1, h2, rfl⟩, h3, h4⟩⟩
theorem Ow.of_up {H H' : AH} (up : Up H.next H H') (sc : Sc H') : Ow H H' [] := ⟨sc, up.next, up.row, fun _ => 0, fun k p hk => by simp at hk⟩
end Go.Abs
end

section
namespace Go.Abs
def okAt (n : Int) (r : List Int) (a : Nat) : Bool := if n ≤ a then r.getD a 0 == 0 else decide (0 ≤ r.getD a 0 ∧ r.getD a 0 ≤ n - 1) && r.getD (r.getD a 0).toNat 0 == a
def roundB (n : Int) (r : List Int) : Bool := decide (2 ≤ n ∧ n ≤ 14) && (List.range 14).all (okAt n r)
def rnd (l : List Int) (i : Nat) : List Int := (l.drop (i * 14)).take 14
def schedB (n : Int) (k : Nat) (l : List Int) : Bool := decide (2 ≤ n ∧ n ≤ 14) && decide (k ≤ 40) && (List.range k).all fun i => roundB n (rnd l i)
theorem zbF (l : List Int) (i k : Nat) (h : l.length = k * 14) (hi : i < k) : (rnd l i).length = 14 := by
  unfold rnd; rw [List.length_take, List.length_drop]; omega
theorem zbH {n i : Nat} {p : Nat → Bool} (hi : i < n) (h : p i = false) : (List.range n).all p = false := by
  rw [List.all_eq_false]; exact ⟨i, by simpa using hi, by simp [h]⟩
theorem zbU {n : Nat} {p : Nat → Bool} (h : ∀ x, x < n → p x = true) : (List.range n).all p = true := by
  rw [List.all_eq_true]; intro x hx; exact h x (by simpa using hx)
theorem zcK {n : Int} {r : List Int} {a : Nat} (ha : a < 14) (h : okAt n r a = false) : roundB n r = false := by
  unfold roundB; rw [zbH ha h, Bool.and_false]
theorem zdH {n : Int} {r : List Int} (hn : 2 ≤ n ∧ n ≤ 14) (h : ∀ x, x < 14 → okAt n r x = true) : roundB n r = true := by
  unfold roundB; rw [zbU h, Bool.and_true]; simp [hn]
theorem zeH {n : Int} {r : List Int} (hn : ¬ (2 ≤ n ∧ n ≤ 14)) : roundB n r = false := by
  unfold roundB; simp only [hn, decide_false, Bool.false_and]
def firstI (p : Nat → Bool) (k : Nat) : Int := match (List.range k).find? p with | some i => (i : Int) | none => -1
theorem find_at {p : Nat → Bool} {k a : Nat} (ha : a < k) (h : p a = true) (hb : ∀ x, x < a → p x = false) : (List.range k).find? p = some a := by
  rw [List.find?_range_eq_some]
  refine ⟨h, by simpa using ha, fun x hx => by simp [hb x hx]⟩
theorem zfI {p : Nat → Bool} {k a : Nat} (ha : a < k) (h : p a = true) (hb : ∀ x, x < a → p x = false) : firstI p k = a := by
  unfold firstI; rw [find_at ha h hb]
theorem zdL {p : Nat → Bool} {k : Nat} (hb : ∀ x, x < k → p x = false) : firstI p k = -1 := by
  unfold firstI
  rw [List.find?_eq_none.2 (by intro x hx; simp [hb x (by simpa using hx)])]
theorem ze8 (p : Nat → Bool) (k : Nat) : decide (0 ≤ firstI p k) = (List.range k).any p := by
  unfold firstI
  cases h : (List.range k).find? p with
  | none => rw [List.find?_eq_none] at h; rw [List.any_eq_false.2 h]; rfl
  | some i =>
    have h1 := List.find?_some h
    have h2 := List.mem_of_find?_eq_some h
    rw [List.any_eq_true.2 ⟨i, h2, h1⟩]
    simp
theorem zeU (n : Int) (k : Nat) (l : List Int) : schedB n k l = (decide (2 ≤ n ∧ n ≤ 14) && decide (k ≤ 40) && !((List.range k).any fun i => !roundB n (rnd l i))) := by
  unfold schedB; congr 1; rw [List.not_any_eq_all_not]; simp
end Go.Abs
end

section
namespace Go.Abs
end Go.Abs
end

section
namespace Go.Abs
end Go.Abs
end

section
namespace Go.Abs
def meetN (now : List Int) (a b : Nat) : List Int := (now.set a (b : Int)).set b (a : Int)
def fstF (now : List Int) : Nat → Nat → Nat
  | 0, a => a
  | d + 1, a => if now.getD a 0 = (a : Int) then a else fstF now d (a + 1)
theorem zf9 (now : List Int) : ∀ d a, a ≤ fstF now d a ∧ fstF now d a ≤ a + d
  | 0, a => ⟨Nat.le_refl _, Nat.le_refl _⟩
  | d + 1, a => by
    unfold fstF
    have := zf9 now d (a + 1)
    split <;> omega
theorem zi4 (now : List Int) : ∀ d a j, a ≤ j → j < fstF now d a → now.getD j 0 ≠ (j : Int)
  | 0, a, j, h1, h2 => by unfold fstF at h2; omega
  | d + 1, a, j, h1, h2 => by
    unfold fstF at h2
    split at h2
    · omega
    · rename_i hn
      by_cases e : j = a
      · rw [e]; exact hn
      · exact zi4 now d (a + 1) j (by omega) h2
theorem ze4 (now : List Int) : ∀ d a, fstF now d a < a + d → now.getD (fstF now d a) 0 = (fstF now d a : Int)
  | 0, a, h => by unfold fstF at h; omega
  | d + 1, a, h => by
    unfold fstF at h ⊢
    split
    · rename_i hy; exact hy
    · rename_i hn
      rw [if_neg hn] at h
      exact ze4 now d (a + 1) (by omega)
theorem fstF_step {now : List Int} {n a : Nat} (h : a < n) (hn : now.getD a 0 ≠ (a : Int)) : fstF now (n - a) a = fstF now (n - (a + 1)) (a + 1) := by
  rw [show n - a = (n - (a + 1)) + 1 by omega]
  show (if _ then _ else _) = _
  rw [if_neg hn]
theorem fstF_here {now : List Int} {n a : Nat} (h : a < n) (hy : now.getD a 0 = (a : Int)) : fstF now (n - a) a = a := by
  rw [show n - a = (n - (a + 1)) + 1 by omega]
  show (if _ then _ else _) = _
  rw [if_pos hy]
theorem fstF_end {now : List Int} {n : Nat} : fstF now (n - n) n = n := by rw [Nat.sub_self]; rfl
def matB (rec : List Int → Nat → List (List Int)) (mt : Nat → Nat → Bool) (now : List Int) (a b : Nat) : List (List Int) :=
  if now.getD b 0 ≠ (b : Int) ∨ mt a b = true then [] else rec (meetN now a b) (a + 1)
def matF (n : Nat) (mt : Nat → Nat → Bool) : Nat → List Int → Nat → List (List Int)
  | 0, _, _ => []
  | f + 1, now, a => if fstF now (n - a) a = n then [now] else
    (List.range' (fstF now (n - a) a + 1) (n - (fstF now (n - a) a + 1))).flatMap fun b => matB (matF n mt f) mt now (fstF now (n - a) a) b
def NowOk (n : Nat) (now : List Int) : Prop := now.length = 14 ∧ ∀ j, j < n → 0 ≤ now.getD j 0 ∧ now.getD j 0 < (n : Int)
theorem zcO (l : List Int) (i : Nat) (x : Int) (j : Nat) (h : i < l.length) : (l.set i x).getD j 0 = if j = i then x else l.getD j 0 := by
  simp only [List.getD_eq_getElem?_getD, List.getElem?_set]
  by_cases e : i = j
  · subst e; rw [if_pos rfl, if_pos h, if_pos rfl]; rfl
  · rw [if_neg e, if_neg (Ne.symm e)]
theorem zcL {now : List Int} {a b : Nat} (hl : now.length = 14) (ha : a < 14) (hb : b < 14) (j : Nat) : (meetN now a b).getD j 0 = if j = b then (a : Int) else if j = a then (b : Int) else now.getD j 0 := by
  unfold meetN
  rw [zcO _ _ _ _ (by rw [List.length_set]; omega), zcO _ _ _ _ (by omega)]
theorem zb8 (now : List Int) (a b : Nat) : (meetN now a b).length = now.length := by simp [meetN]
theorem NowOk.meet {n : Nat} {now : List Int} {a b : Nat} (h : NowOk n now) (hn : n ≤ 14) (ha : a < n) (hb : b < n) : NowOk n (meetN now a b) := by
  refine ⟨by rw [zb8]; exact h.1, fun j hj => ?_⟩
  rw [zcL h.1 (by omega) (by omega)]
  have := h.2 j hj
  split
  · omega
  · split <;> omega
theorem list14 {l m : List Int} (hl : l.length = 14) (hm : m.length = 14) (h : ∀ j, j < 14 → l.getD j 0 = m.getD j 0) : l = m := by
  apply List.ext_getElem (by omega)
  intro i h1 h2
  have := h i (by omega)
  rw [List.getD_eq_getElem?_getD, List.getD_eq_getElem?_getD, List.getElem?_eq_getElem h1, List.getElem?_eq_getElem h2] at this
  exact this
theorem meetN_back {now : List Int} {a b : Nat} (hl : now.length = 14) (ha : a < 14) (hb : b < 14) (h1 : now.getD a 0 = (a : Int)) (h2 : now.getD b 0 = (b : Int)) : ((meetN now a b).set a (a : Int)).set b (b : Int) = now := by
  refine list14 (by simp [zb8, hl]) hl fun j hj => ?_
  rw [zcO _ _ _ _ (by simp [zb8, hl]; omega), zcO _ _ _ _ (by simp [zb8, hl]; omega), zcL hl ha hb]
  split
  · rename_i e; rw [e, h2]
  · split
    · rename_i e; rw [e, h1]
    · rfl
def foldE {σ : Type} (step : σ → List Int → Bool × σ) : List (List Int) → σ → Bool × σ
  | [], s => (true, s)
  | r :: rs, s => if (step s r).1 = true then foldE step rs (step s r).2 else (false, (step s r).2)
theorem zeC {σ : Type} (step : σ → List Int → Bool × σ) : ∀ (xs ys : List (List Int)) (s : σ), foldE step (xs ++ ys) s = if (foldE step xs s).1 = true then foldE step ys (foldE step xs s).2 else (false, (foldE step xs s).2)
  | [], ys, s => by simp [foldE]
  | x :: xs, ys, s => by
    rw [List.cons_append]
    by_cases h : (step s x).1 = true
    · have h2 : foldE step (x :: xs) s = foldE step xs (step s x).2 := by
        show (if _ then _ else _) = _
        rw [if_pos h]
      have h3 : foldE step (x :: (xs ++ ys)) s = foldE step (xs ++ ys) (step s x).2 := by
        show (if _ then _ else _) = _
        rw [if_pos h]
      rw [h3, h2]; exact zeC step xs ys _
    · have h2 : foldE step (x :: xs) s = (false, (step s x).2) := by
        show (if _ then _ else _) = _
        rw [if_neg h]
      have h3 : foldE step (x :: (xs ++ ys)) s = (false, (step s x).2) := by
        show (if _ then _ else _) = _
        rw [if_neg h]
      rw [h3, h2]; simp
theorem foldE_one {σ : Type} (step : σ → List Int → Bool × σ) (r : List Int) (s : σ) : foldE step [r] s = step s r := by
  unfold foldE
  by_cases h : (step s r).1 = true
  · rw [if_pos h]; unfold foldE; rw [← h]
  · rw [if_neg h]
    have : (step s r).1 = false := by simpa using h
    rw [← this]
/-! ### Renumbering by a ranking -/
structure PermN (n : Nat) (R : List Int) : Prop where
  len : R.length = n
  rng : ∀ j, j < n → 0 ≤ R.getD j 0 ∧ R.getD j 0 < (n : Int)
  inj : ∀ i j, i < n → j < n → R.getD i 0 = R.getD j 0 → i = j
  sur : ∀ x, x < n → ∃ j, j < n ∧ R.getD j 0 = (x : Int)
end Go.Abs
end

section
set_option maxRecDepth 100000
set_option maxHeartbeats 2000000
namespace Go.Proofs.YtemgclojolmhbaaGreat.A
open Go Go.Abs Go.RowKit
def mtM (M : List (List Int)) (a b : Nat) : Bool := decide (0 < (M.getD a []).getD b 0)
structure CallOk (n : Nat) (M : List (List Int)) (mv : Value) (g : FuncId) (caps : List Value) (b0 : Nat) {σ : Type} (Inv : σ → AH → Prop) (step : σ → List Int → Bool × σ) : Prop where
  n14 : n ≤ 14
  ml : M.length = n
  mr : ∀ a, a < n → (M.getD a []).length = n
  low : ∀ s H H', Inv s H → (∀ i, i < b0 → H'.row i = H.row i) → Inv s H'
  met : ∀ s H, Inv s H → Rd2 1 H mv M
  call : ∀ s r H, Inv s H → b0 ≤ H.next → Sc H → NowOk n r → ACalls Tryz.prog g (.agg (ints r).toArray :: caps) H (fun v H' => v = .bool (step s r).1 ∧ Inv (step s r).2 H' ∧ H.next ≤ H'.next ∧ Sc H' ∧ ∀ i, b0 ≤ i → i < H.next → H'.row i = H.row i)
end Go.Proofs.YtemgclojolmhbaaGreat.A
end

section
set_option maxRecDepth 100000
namespace Go.Proofs.YtemgclojolmhbaaGreat.A
open Go Go.Abs Go.RowKit
def FrS (q : Int) (n : Nat) (l : List Int) (H : AH) (v : Value) (H' : AH) : Prop := ∃ u, v = .agg #[.int .i64 q, u] ∧ Up H.next H H' ∧ Fr 14 67 H.next H'.next H' u n l
theorem circle_c (n : Nat) (hn : 2 ≤ n ∧ n ≤ 14) (H : AH) : ACalls Tryz.prog 51 [.int .i64 n] H (FrS n (oddUp n) (zaW n (oddUp n)) H) := by
  refine za3 [.cell 2 26] Tryz.func51 (by kernel_rfl) rfl rfl (Nat.le_of_ble_eq_true rfl) (by kernel_rfl) ?_
  have em : Int.tmod (n : Int) 2 = ((n % 2 : Nat) : Int) := rfl
  have em2 : (n : Int) - 1 + ((n % 2 : Nat) : Int) = (oddUp n : Nat) := by unfold oddUp; omega
  have hm2 : oddUp n ≤ 13 := by unfold oddUp; omega
  have hm3 : n = oddUp n ∨ n = oddUp n + 1 := by unfold oddUp; omega
  try simp (disch := first | omega | (simp only [za1, List.length_replicate, za6, za9, zaB] <;> omega)) only [Sall,evalOp,init,binA_s,binE,binI,unE,convE,okNil,builtE,gv,TD.isAgg,resV,↓reduceIte,Nat.reduceEqDiff,reduceCtorEq,Nat.reduceAdd,Nat.reduceMul,Nat.reduceLeDiff,za0,za2,Int.reduceEq,Int.reduceLT,Int.reduceLE,Nat.reduceLT,tiA, em, w64, em2]
  refine za5 (fun m t H' => ∃ (r : Nat) (u : Value), m = oddUp n - r ∧ r ≤ oddUp n ∧ t 17 = .int .i64 r ∧ t 16 = .int .i64 (oddUp n) ∧ t 4 = .int .i64 (oddUp n) ∧ t 0 = .int .i64 n ∧ t 2 = .pointer (some ⟨H.next, 0, none⟩) ∧ t 3 = .pointer (some ⟨H.next + 1, 0, none⟩) ∧
    Up H.next H H' ∧ H.next + 2 ≤ H'.next ∧ H'.row H.next = some ⟨26, true, [.int .i64 0, .slice none 0 0]⟩ ∧ H'.row (H.next + 1) = some ⟨26, true, [.int .i64 n, u]⟩ ∧ Fr 14 67 (H.next + 2) H'.next H' u r (zaW n r)) (oddUp n) ?_ ?_
  · refine ⟨0, .slice none 0 0, by omega, by omega, ?_⟩
    try simp (disch := first | omega | (simp only [za1, List.length_replicate, za6, za9, zaB] <;> omega)) only [Sall,evalOp,init,binA_s,binE,binI,unE,convE,okNil,builtE,gv,TD.isAgg,resV,↓reduceIte,Nat.reduceEqDiff,reduceCtorEq,Nat.reduceAdd,Nat.reduceMul,Nat.reduceLeDiff,za0,za2,Int.reduceEq,Int.reduceLT,Int.reduceLE,Nat.reduceLT,tiA, Int.natCast_zero]
    exact ⟨(((Up.refl _ H).push (by omega) _).push (Nat.le_succ _) _).set (by omega) _, by simp [zaW], .inl ⟨rfl, rfl⟩⟩
  · rintro m t H' ⟨r, u, hm, hr, h17, h16, h4, h0, h2, h3, hup, hnx, hr0, hr1, hfr⟩
    try simp (disch := first | omega | (simp only [za1, List.length_replicate, za6, za9, zaB] <;> omega)) only [Sall,evalOp,init,binA_s,binE,binI,unE,convE,okNil,builtE,gv,TD.isAgg,resV,↓reduceIte,Nat.reduceEqDiff,reduceCtorEq,Nat.reduceAdd,Nat.reduceMul,Nat.reduceLeDiff,za0,za2,Int.reduceEq,Int.reduceLT,Int.reduceLE,Nat.reduceLT,tiA, h17, h16]
    refine za4 (fun h => ?_) (fun h => ?_)
    · try simp (disch := first | omega | (simp only [za1, List.length_replicate, za6, za9, zaB] <;> omega)) only [Sall,evalOp,init,binA_s,binE,binI,unE,convE,okNil,builtE,gv,TD.isAgg,resV,↓reduceIte,Nat.reduceEqDiff,reduceCtorEq,Nat.reduceAdd,Nat.reduceMul,Nat.reduceLeDiff,za0,za2,Int.reduceEq,Int.reduceLT,Int.reduceLE,Nat.reduceLT,tiA, h17, h16, h0, h4, h2, h3]
      refine (free_c n (by omega) H').to ?_
      try simp (disch := first | omega | (simp only [za1, List.length_replicate, za6, za9, zaB] <;> omega)) only [Sall,evalOp,init,binA_s,binE,binI,unE,convE,okNil,builtE,gv,TD.isAgg,resV,↓reduceIte,Nat.reduceEqDiff,reduceCtorEq,Nat.reduceAdd,Nat.reduceMul,Nat.reduceLeDiff,za0,za2,Int.reduceEq,Int.reduceLT,Int.reduceLE,Nat.reduceLT,tiA, h17, h16, h0, h4, h2, h3, zaJ]
      refine za5 (fun m' t H'' => ∃ k : Nat, m' = oddUp n - k ∧ k ≤ oddUp n ∧ t 23 = .int .i64 k ∧ t 22 = .int .i64 (oddUp n) ∧ t 5 = .int .i64 r ∧ t 6 = .pointer (some ⟨H'.next, 0, none⟩) ∧ t 17 = .int .i64 r ∧ t 16 = .int .i64 (oddUp n) ∧ t 4 = .int .i64 (oddUp n) ∧ t 0 = .int .i64 n ∧ t 2 = .pointer (some ⟨H.next, 0, none⟩) ∧ t 3 = .pointer (some ⟨H.next + 1, 0, none⟩) ∧
        Up H'.next H' H'' ∧ H''.next = H'.next + 1 ∧ H''.row H'.next = some ⟨67, true, ints (cmid n r k)⟩) (oddUp n) ?_ ?_
      · refine ⟨0, by omega, by omega, ?_⟩
        try simp (disch := first | omega | (simp only [za1, List.length_replicate, za6, za9, zaB] <;> omega)) only [Sall,evalOp,init,binA_s,binE,binI,unE,convE,okNil,builtE,gv,TD.isAgg,resV,↓reduceIte,Nat.reduceEqDiff,reduceCtorEq,Nat.reduceAdd,Nat.reduceMul,Nat.reduceLeDiff,za0,za2,Int.reduceEq,Int.reduceLT,Int.reduceLE,Nat.reduceLT,tiA, Int.natCast_zero, h17, h16, h0, h4, h2, h3]
        refine ⟨((Up.refl _ H').push (by omega) _).set (by omega) _, ?_⟩
        rw [cmid_zero n (by omega) r (by omega)]; rfl
      · rintro m' t H'' ⟨k, hm', hk, h23, h22, h5, h6, h17, h16, h4, h0, h2, h3, hup2, hnx2, hr2⟩
        try simp (disch := first | omega | (simp only [za1, List.length_replicate, za6, za9, zaB] <;> omega)) only [Sall,evalOp,init,binA_s,binE,binI,unE,convE,okNil,builtE,gv,TD.isAgg,resV,↓reduceIte,Nat.reduceEqDiff,reduceCtorEq,Nat.reduceAdd,Nat.reduceMul,Nat.reduceLeDiff,za0,za2,Int.reduceEq,Int.reduceLT,Int.reduceLE,Nat.reduceLT,tiA, h23, h22]
        refine za4 (fun hk' => ?_) (fun hk' => ?_)
        · have hb := zi8 n (by omega) r (by omega) k (by omega)
          have eb : Int.tmod (2 * (r : Int) - (k : Int) + (oddUp n : Int)) (oddUp n : Int) = cb (oddUp n) r k := rfl
          have st := cmid_step n (by omega) r (by omega) k (by omega)
          try simp (disch := first | omega | (simp only [za1, List.length_replicate, za6, za9, zaB] <;> omega)) only [Sall,evalOp,init,binA_s,binE,binI,unE,convE,okNil,builtE,gv,TD.isAgg,resV,↓reduceIte,Nat.reduceEqDiff,reduceCtorEq,Nat.reduceAdd,Nat.reduceMul,Nat.reduceLeDiff,za0,za2,Int.reduceEq,Int.reduceLT,Int.reduceLE,Nat.reduceLT,tiA, h23, h22, h5, h4, w64, eb]
          refine ⟨by omega, ?_⟩
          refine za4 (fun hlt => ?_) (fun hlt => ?_)
          · try simp (disch := first | omega | (simp only [za1, List.length_replicate, za6, za9, zaB] <;> omega)) only [Sall,evalOp,init,binA_s,binE,binI,unE,convE,okNil,builtE,gv,TD.isAgg,resV,↓reduceIte,Nat.reduceEqDiff,reduceCtorEq,Nat.reduceAdd,Nat.reduceMul,Nat.reduceLeDiff,za0,za2,Int.reduceEq,Int.reduceLT,Int.reduceLE,Nat.reduceLT,tiA, h23, h22, h5, h6]
            refine (meet_c H'.next _ _ _ _ H'' hr2 (za9 _ _ _) ⟨by omega, by omega⟩ ⟨by omega, by omega⟩).to ?_
            rw [if_pos hlt] at st
            try simp (disch := first | omega | (simp only [za1, List.length_replicate, za6, za9, zaB] <;> omega)) only [Sall,evalOp,init,binA_s,binE,binI,unE,convE,okNil,builtE,gv,TD.isAgg,resV,↓reduceIte,Nat.reduceEqDiff,reduceCtorEq,Nat.reduceAdd,Nat.reduceMul,Nat.reduceLeDiff,za0,za2,Int.reduceEq,Int.reduceLT,Int.reduceLE,Nat.reduceLT,tiA, h23, h22, h5, h6, h17, h16, h4, h0, h2, h3, w64, st, hr2]
            exact ⟨oddUp n - (k + 1), by omega, k + 1, rfl, by omega, by omega, hup2.set (Nat.le_refl _) _, hnx2, rfl⟩
          · rw [if_neg hlt] at st
            try simp (disch := first | omega | (simp only [za1, List.length_replicate, za6, za9, zaB] <;> omega)) only [Sall,evalOp,init,binA_s,binE,binI,unE,convE,okNil,builtE,gv,TD.isAgg,resV,↓reduceIte,Nat.reduceEqDiff,reduceCtorEq,Nat.reduceAdd,Nat.reduceMul,Nat.reduceLeDiff,za0,za2,Int.reduceEq,Int.reduceLT,Int.reduceLE,Nat.reduceLT,tiA, h23, h22, h5, h6, h17, h16, h4, h0, h2, h3, w64, ← st, hr2]
            exact ⟨oddUp n - (k + 1), by omega, k + 1, rfl, by omega, by omega, hup2, hnx2, by rw [← st]⟩
        · have hkm : k = oddUp n := by omega
          subst hkm
          try simp (disch := first | omega | (simp only [za1, List.length_replicate, za6, za9, zaB] <;> omega)) only [Sall,evalOp,init,binA_s,binE,binI,unE,convE,okNil,builtE,gv,TD.isAgg,resV,↓reduceIte,Nat.reduceEqDiff,reduceCtorEq,Nat.reduceAdd,Nat.reduceMul,Nat.reduceLeDiff,za0,za2,Int.reduceEq,Int.reduceLT,Int.reduceLE,Nat.reduceLT,tiA, h0, em]
          have fin : ∀ H3 : AH, Up H'.next H' H3 → H3.next = H'.next + 1 → H3.row H'.next = some ⟨67, true, ints (cround n r)⟩ →
              H3.row (H.next + 1) = some ⟨26, true, [.int .i64 n, u]⟩ ∧ Fr 14 67 (H.next + 2) H'.next H3 u r (zaW n r) := fun H3 a b c =>
            ⟨by rw [a.row _ (by omega), hr1], hfr.same fun i _ hi => a.row i hi⟩
          have ne1 : ¬ (H.next + 1 = H'.next) := by omega
          have ne2 : ¬ (H.next = H'.next) := by omega
          have hcl := za6 n r
          by_cases h2n : n % 2 = 0
          · have e0 : (((n % 2 : Nat) : Int) == 0) = true := by rw [h2n]; rfl
            try simp (disch := first | omega | (simp only [za1, List.length_replicate, za6, za9, zaB] <;> omega)) only [Sall,evalOp,init,binA_s,binE,binI,unE,convE,okNil,builtE,gv,TD.isAgg,resV,↓reduceIte,Nat.reduceEqDiff,reduceCtorEq,Nat.reduceAdd,Nat.reduceMul,Nat.reduceLeDiff,za0,za2,Int.reduceEq,Int.reduceLT,Int.reduceLE,Nat.reduceLT,tiA, e0, h0, h5, h6, w64]
            have hm4 : n = oddUp n + 1 := by unfold oddUp; omega
            refine (meet_c H'.next _ _ _ _ H'' hr2 (za9 _ _ _) ⟨by omega, by omega⟩ ⟨by omega, by omega⟩).to ?_
            have ec : ((cmid n r (oddUp n)).set ((n : Int) - 1).toNat r).set (r : Int).toNat ((n : Int) - 1) = cround n r := by
              unfold cround; rw [if_pos h2n, show ((n : Int) - 1).toNat = n - 1 by omega, Int.toNat_natCast]
            rw [ec]
            obtain ⟨g1, gf⟩ := fin (H''.setCells H'.next (ints (cround n r))) (hup2.set (Nat.le_refl _) _) hnx2 (by rw [AH.setCells_row, if_pos rfl, hr2]; rfl)
            have g2 : (H''.setCells H'.next (ints (cround n r))).row H'.next = some ⟨67, true, ints (cround n r)⟩ := by rw [AH.setCells_row, if_pos rfl, hr2]; rfl
            have g3 := hup2.set (Nat.le_refl _) (ints (cround n r))
            have g4 : (H''.setCells H'.next (ints (cround n r))).next = H'.next + 1 := hnx2
            revert g1 gf g2 g3 g4
            generalize H''.setCells H'.next (ints (cround n r)) = H3
            intro g1 gf g2 g3 g4
            try simp (disch := first | omega | (simp only [za1, List.length_replicate, za6, za9, zaB] <;> omega)) only [Sall,evalOp,init,binA_s,binE,binI,unE,convE,okNil,builtE,gv,TD.isAgg,resV,↓reduceIte,Nat.reduceEqDiff,reduceCtorEq,Nat.reduceAdd,Nat.reduceMul,Nat.reduceLeDiff,za0,za2,Int.reduceEq,Int.reduceLT,Int.reduceLE,Nat.reduceLT,tiA, h3, h6, g1, g2, g4, hcl, zaL, zbT, ne_eq, reduceCtorEq]
            have h3f : Fr 14 67 (H.next + 2) H'.next (H3.push ⟨67, true, ints (cround n r)⟩) u r (zaW n r) := gf.same fun i _ hi => by rw [AH.push_row, if_neg (by omega)]
            refine zgH h3f rfl (by omega) (by rw [hcl]) (by omega) (by decide) (by omega) (by rw [AH.push_next]; omega) ?_
            intro v' H4 k1 k2 k3
            rw [AH.push_next] at k1 k2 k3
            have k4 : H4.row (H.next + 1) = some ⟨26, true, [.int .i64 n, u]⟩ := by rw [k2 _ (by omega) (by omega), AH.push_row, if_neg (by omega), g1]
            have k5 := k3.rd.one
            try simp (disch := first | omega | (simp only [za1, List.length_replicate, za6, za9, zaB] <;> omega)) only [Sall,evalOp,init,binA_s,binE,binI,unE,convE,okNil,builtE,gv,TD.isAgg,resV,↓reduceIte,Nat.reduceEqDiff,reduceCtorEq,Nat.reduceAdd,Nat.reduceMul,Nat.reduceLeDiff,za0,za2,Int.reduceEq,Int.reduceLT,Int.reduceLE,Nat.reduceLT,tiA, h3, h6, h17, h16, h4, h0, h2, h3, k4, k5, w64, List.set_cons_succ, List.set_cons_zero]
            refine ⟨oddUp n - (r + 1), by omega, r + 1, v', rfl, by omega, by omega, ?_, by omega, ?_, ?_⟩
            · refine Up.set ⟨by omega, fun i hi => ?_⟩ (by omega) _
              rw [k2 i (by omega) (by omega), AH.push_row, if_neg (by omega), g3.row i (by omega), hup.row i hi]
            · rw [k2 _ (by omega) (by omega), AH.push_row, if_neg (by omega), g3.row _ (by omega), hr0]
            · rw [zcM]
              refine ⟨rfl, (Fr.wide k3 (lo' := H.next + 2) (hi' := H4.next) (by omega) (by omega)).same ?_⟩
              intro i hi _
              rw [AH.setCells_row, if_neg (by omega)]
          · have e0 : (((n % 2 : Nat) : Int) == 0) = false := by rw [beq_eq_false_iff_ne]; omega
            try simp (disch := first | omega | (simp only [za1, List.length_replicate, za6, za9, zaB] <;> omega)) only [Sall,evalOp,init,binA_s,binE,binI,unE,convE,okNil,builtE,gv,TD.isAgg,resV,↓reduceIte,Nat.reduceEqDiff,reduceCtorEq,Nat.reduceAdd,Nat.reduceMul,Nat.reduceLeDiff,za0,za2,Int.reduceEq,Int.reduceLT,Int.reduceLE,Nat.reduceLT,tiA, e0, h0, h5, h6, w64]
            have ec : cmid n r (oddUp n) = cround n r := by
              unfold cround; rw [if_neg h2n]
            rw [ec] at hr2
            obtain ⟨g1, gf⟩ := fin H'' hup2 hnx2 hr2
            have g2 := hr2
            have g3 := hup2
            have g4 := hnx2
            revert g1 gf g2 g3 g4
            generalize H'' = H3
            intro g1 gf g2 g3 g4
            try simp (disch := first | omega | (simp only [za1, List.length_replicate, za6, za9, zaB] <;> omega)) only [Sall,evalOp,init,binA_s,binE,binI,unE,convE,okNil,builtE,gv,TD.isAgg,resV,↓reduceIte,Nat.reduceEqDiff,reduceCtorEq,Nat.reduceAdd,Nat.reduceMul,Nat.reduceLeDiff,za0,za2,Int.reduceEq,Int.reduceLT,Int.reduceLE,Nat.reduceLT,tiA, h3, h6, g1, g2, g4, hcl, zaL, zbT, ne_eq, reduceCtorEq]
            have h3f : Fr 14 67 (H.next + 2) H'.next (H3.push ⟨67, true, ints (cround n r)⟩) u r (zaW n r) := gf.same fun i _ hi => by rw [AH.push_row, if_neg (by omega)]
            refine zgH h3f rfl (by omega) (by rw [hcl]) (by omega) (by decide) (by omega) (by rw [AH.push_next]; omega) ?_
            intro v' H4 k1 k2 k3
            rw [AH.push_next] at k1 k2 k3
            have k4 : H4.row (H.next + 1) = some ⟨26, true, [.int .i64 n, u]⟩ := by rw [k2 _ (by omega) (by omega), AH.push_row, if_neg (by omega), g1]
            have k5 := k3.rd.one
            try simp (disch := first | omega | (simp only [za1, List.length_replicate, za6, za9, zaB] <;> omega)) only [Sall,evalOp,init,binA_s,binE,binI,unE,convE,okNil,builtE,gv,TD.isAgg,resV,↓reduceIte,Nat.reduceEqDiff,reduceCtorEq,Nat.reduceAdd,Nat.reduceMul,Nat.reduceLeDiff,za0,za2,Int.reduceEq,Int.reduceLT,Int.reduceLE,Nat.reduceLT,tiA, h3, h6, h17, h16, h4, h0, h2, h3, k4, k5, w64, List.set_cons_succ, List.set_cons_zero]
            refine ⟨oddUp n - (r + 1), by omega, r + 1, v', rfl, by omega, by omega, ?_, by omega, ?_, ?_⟩
            · refine Up.set ⟨by omega, fun i hi => ?_⟩ (by omega) _
              rw [k2 i (by omega) (by omega), AH.push_row, if_neg (by omega), g3.row i (by omega), hup.row i hi]
            · rw [k2 _ (by omega) (by omega), AH.push_row, if_neg (by omega), g3.row _ (by omega), hr0]
            · rw [zcM]
              refine ⟨rfl, (Fr.wide k3 (lo' := H.next + 2) (hi' := H4.next) (by omega) (by omega)).same ?_⟩
              intro i hi _
              rw [AH.setCells_row, if_neg (by omega)]
    · have hrm : r = oddUp n := by omega
      have hne : ¬ (H.next + 1 = H.next) := by omega
      try simp (disch := first | omega | (simp only [za1, List.length_replicate, za6, za9, zaB] <;> omega)) only [Sall,evalOp,init,binA_s,binE,binI,unE,convE,okNil,builtE,gv,TD.isAgg,resV,↓reduceIte,Nat.reduceEqDiff,reduceCtorEq,Nat.reduceAdd,Nat.reduceMul,Nat.reduceLeDiff,za0,za2,Int.reduceEq,Int.reduceLT,Int.reduceLE,Nat.reduceLT,tiA, h3, h2, hr0, hr1]
      refine ⟨u, rfl, hup.set (Nat.le_refl _) _, ?_⟩
      rw [← hrm]
      exact (Fr.wide (hfr.same (H' := H'.setCells H.next [.int .i64 n, u]) fun i hi _ => by rw [AH.setCells_row, if_neg (by omega)]) (by omega) (by rw [AH.setCells_next]; omega))
theorem zdE (n : Nat) (hn : 2 ≤ n ∧ n ≤ 14) (H : AH) : ACalls Tryz.prog 29 [.int .i64 n] H (FrS n (oddUp n) (zaW n (oddUp n)) H) := by
  refine za3 [.cell 2 26] Tryz.func29 (by kernel_rfl) rfl rfl (Nat.le_of_ble_eq_true rfl) (by kernel_rfl) ?_
  have em : Int.tmod (n : Int) 2 = ((n % 2 : Nat) : Int) := rfl
  have em2 : (n : Int) - 1 + ((n % 2 : Nat) : Int) = (oddUp n : Nat) := by unfold oddUp; omega
  have hm2 : oddUp n ≤ 13 := by unfold oddUp; omega
  have hm3 : n = oddUp n ∨ n = oddUp n + 1 := by unfold oddUp; omega
  try simp (disch := first | omega | (simp only [za1, List.length_replicate, za6, za9, zaB] <;> omega)) only [Sall,evalOp,init,binA_s,binE,binI,unE,convE,okNil,builtE,gv,TD.isAgg,resV,↓reduceIte,Nat.reduceEqDiff,reduceCtorEq,Nat.reduceAdd,Nat.reduceMul,Nat.reduceLeDiff,za0,za2,Int.reduceEq,Int.reduceLT,Int.reduceLE,Nat.reduceLT,tiA, em, w64, em2, zaV]
  refine za5 (fun m t H' => ∃ (r : Nat) (u : Value) (lo hi : Nat), m = oddUp n - r ∧ r ≤ oddUp n ∧ t 5 = .int .i64 r ∧ t 3 = .int .i64 (oddUp n) ∧ t 0 = .int .i64 n ∧ t 2 = .pointer (some ⟨H.next, 0, none⟩) ∧ t 4 = .pointer (some ⟨H.next + 2, 0, none⟩) ∧
    Up H.next H H' ∧ H'.row H.next = some ⟨26, true, [.int .i64 0, .slice none 0 0]⟩ ∧ H'.row (H.next + 2) = some ⟨26, true, [.int .i64 n, u]⟩ ∧ Fr 14 67 lo hi H' u r (zaW n r) ∧ H.next < lo ∧ hi ≤ H'.next ∧ (hi ≤ H.next + 2 ∨ H.next + 2 < lo) ∧ H.next + 3 ≤ H'.next) (oddUp n) ?_ ?_
  · refine ⟨0, .slice (some ⟨H.next + 1, 0, some 14⟩) 0 0, H.next + 1, H.next + 2, by omega, by omega, ?_⟩
    try simp (disch := first | omega | (simp only [za1, List.length_replicate, za6, za9, zaB] <;> omega)) only [Sall,evalOp,init,binA_s,binE,binI,unE,convE,okNil,builtE,gv,TD.isAgg,resV,↓reduceIte,Nat.reduceEqDiff,reduceCtorEq,Nat.reduceAdd,Nat.reduceMul,Nat.reduceLeDiff,za0,za2,Int.reduceEq,Int.reduceLT,Int.reduceLE,Nat.reduceLT,tiA, Int.natCast_zero]
    exact ⟨((((Up.refl _ H).push (by omega) _).push (Nat.le_succ _) _).push (Nat.le_succ_of_le (Nat.le_succ _)) _).set (by omega) _, ⟨by simp [zaW], .inr ⟨H.next + 1, by omega, by omega, rfl, by simp [AH.push_row, AH.setCells_row, AH.push_next, zaW, ints]⟩⟩, by omega, by omega⟩
  · rintro m t H' ⟨r, u, lo, hi, hm, hr, h5, h3, h0, h2, h4, hup, hr0, hr1, hfr, hlo, hhi, hx, hnx⟩
    try simp (disch := first | omega | (simp only [za1, List.length_replicate, za6, za9, zaB] <;> omega)) only [Sall,evalOp,init,binA_s,binE,binI,unE,convE,okNil,builtE,gv,TD.isAgg,resV,↓reduceIte,Nat.reduceEqDiff,reduceCtorEq,Nat.reduceAdd,Nat.reduceMul,Nat.reduceLeDiff,za0,za2,Int.reduceEq,Int.reduceLT,Int.reduceLE,Nat.reduceLT,tiA, h5, h3]
    refine za4 (fun h => ?_) (fun h => ?_)
    · try simp (disch := first | omega | (simp only [za1, List.length_replicate, za6, za9, zaB] <;> omega)) only [Sall,evalOp,init,binA_s,binE,binI,unE,convE,okNil,builtE,gv,TD.isAgg,resV,↓reduceIte,Nat.reduceEqDiff,reduceCtorEq,Nat.reduceAdd,Nat.reduceMul,Nat.reduceLeDiff,za0,za2,Int.reduceEq,Int.reduceLT,Int.reduceLE,Nat.reduceLT,tiA, h5, h3, h0, h4, h2]
      refine (freeS_c n (by omega) H').to ?_
      try simp (disch := first | omega | (simp only [za1, List.length_replicate, za6, za9, zaB] <;> omega)) only [Sall,evalOp,init,binA_s,binE,binI,unE,convE,okNil,builtE,gv,TD.isAgg,resV,↓reduceIte,Nat.reduceEqDiff,reduceCtorEq,Nat.reduceAdd,Nat.reduceMul,Nat.reduceLeDiff,za0,za2,Int.reduceEq,Int.reduceLT,Int.reduceLE,Nat.reduceLT,tiA, h5, h3, h0, h4, h2, zaJ]
      refine za5 (fun m' t H'' => ∃ k : Nat, m' = oddUp n - k ∧ k ≤ oddUp n ∧ t 7 = .int .i64 k ∧ t 5 = .int .i64 r ∧ t 6 = .pointer (some ⟨H'.next, 0, none⟩) ∧ t 3 = .int .i64 (oddUp n) ∧ t 0 = .int .i64 n ∧ t 2 = .pointer (some ⟨H.next, 0, none⟩) ∧ t 4 = .pointer (some ⟨H.next + 2, 0, none⟩) ∧
        Up H'.next H' H'' ∧ H''.next = H'.next + 1 ∧ H''.row H'.next = some ⟨67, true, ints (cset n r k)⟩) (oddUp n) ?_ ?_
      · refine ⟨0, by omega, by omega, ?_⟩
        try simp (disch := first | omega | (simp only [za1, List.length_replicate, za6, za9, zaB] <;> omega)) only [Sall,evalOp,init,binA_s,binE,binI,unE,convE,okNil,builtE,gv,TD.isAgg,resV,↓reduceIte,Nat.reduceEqDiff,reduceCtorEq,Nat.reduceAdd,Nat.reduceMul,Nat.reduceLeDiff,za0,za2,Int.reduceEq,Int.reduceLT,Int.reduceLE,Nat.reduceLT,tiA, Int.natCast_zero, h5, h3, h0, h4, h2]
        refine ⟨((Up.refl _ H').push (by omega) _).set (by omega) _, ?_⟩
        rw [cset_zero n (by omega) r (by omega)]; rfl
      · rintro m' t H'' ⟨k, hm', hk, h7, h5, h6, h3, h0, h2, h4, hup2, hnx2, hr2⟩
        try simp (disch := first | omega | (simp only [za1, List.length_replicate, za6, za9, zaB] <;> omega)) only [Sall,evalOp,init,binA_s,binE,binI,unE,convE,okNil,builtE,gv,TD.isAgg,resV,↓reduceIte,Nat.reduceEqDiff,reduceCtorEq,Nat.reduceAdd,Nat.reduceMul,Nat.reduceLeDiff,za0,za2,Int.reduceEq,Int.reduceLT,Int.reduceLE,Nat.reduceLT,tiA, h7, h3]
        refine za4 (fun hk' => ?_) (fun hk' => ?_)
        · have hb := zi8 n (by omega) r (by omega) k (by omega)
          have eb : Int.tmod (2 * (r : Int) + (oddUp n : Int) - (k : Int)) (oddUp n : Int) = cb (oddUp n) r k := by unfold cb; rw [show 2 * (r : Int) + (oddUp n : Int) - (k : Int) = 2 * (r : Int) - (k : Int) + (oddUp n : Int) by omega]
          have st := cset_step n (by omega) r (by omega) k (by omega)
          have hl := zaB n r k
          try simp (disch := first | omega | (simp only [za1, List.length_replicate, za6, za9, zaB] <;> omega)) only [Sall,evalOp,init,binA_s,binE,binI,unE,convE,okNil,builtE,gv,TD.isAgg,resV,↓reduceIte,Nat.reduceEqDiff,reduceCtorEq,Nat.reduceAdd,Nat.reduceMul,Nat.reduceLeDiff,za0,za2,Int.reduceEq,Int.reduceLT,Int.reduceLE,Nat.reduceLT,tiA, h7, h5, h3, h6, w64, eb, hr2, hl, zaR, st, h0, h2, h4]
          exact ⟨by omega, ⟨by omega, by omega⟩, by omega, oddUp n - (k + 1), by omega, k + 1, rfl, by omega, by omega, hup2.set (Nat.le_refl _) _, hnx2, rfl⟩
        · have hkm : k = oddUp n := by omega
          subst hkm
          rw [cset_last n (by omega) r (by omega)] at hr2
          try simp (disch := first | omega | (simp only [za1, List.length_replicate, za6, za9, zaB] <;> omega)) only [Sall,evalOp,init,binA_s,binE,binI,unE,convE,okNil,builtE,gv,TD.isAgg,resV,↓reduceIte,Nat.reduceEqDiff,reduceCtorEq,Nat.reduceAdd,Nat.reduceMul,Nat.reduceLeDiff,za0,za2,Int.reduceEq,Int.reduceLT,Int.reduceLE,Nat.reduceLT,tiA, h0, em]
          have ne1 : ¬ (H.next + 2 = H'.next) := by omega
          have hcl := za6 n r
          have hml := za9 n r (oddUp n)
          have fin : ∀ H3 : AH, Up H'.next H' H3 → H3.next = H'.next + 1 → H3.row H'.next = some ⟨67, true, ints (cround n r)⟩ →
              H3.row (H.next + 2) = some ⟨26, true, [.int .i64 n, u]⟩ ∧ Fr 14 67 lo hi H3 u r (zaW n r) := fun H3 a b c =>
            ⟨by rw [a.row _ (by omega), hr1], hfr.same fun i _ hi => a.row i (by omega)⟩
          by_cases h2n : n % 2 = 0
          · have e0 : (((n % 2 : Nat) : Int) == 0) = true := by rw [h2n]; rfl
            have hm4 : n = oddUp n + 1 := by unfold oddUp; omega
            have ec : ((cmid n r (oddUp n)).set r ((n : Int) - 1)).set ((n : Int) - 1).toNat r = cround n r := by
              unfold cround; rw [if_pos h2n, show ((n : Int) - 1).toNat = n - 1 by omega, List.set_comm _ _ (by omega)]
            have hsl : ((cmid n r (oddUp n)).set r ((n : Int) - 1)).length = 14 := by rw [List.length_set, hml]
            try simp (disch := first | omega | (simp only [za1, List.length_replicate, za6, za9, zaB] <;> omega)) only [Sall,evalOp,init,binA_s,binE,binI,unE,convE,okNil,builtE,gv,TD.isAgg,resV,↓reduceIte,Nat.reduceEqDiff,reduceCtorEq,Nat.reduceAdd,Nat.reduceMul,Nat.reduceLeDiff,za0,za2,Int.reduceEq,Int.reduceLT,Int.reduceLE,Nat.reduceLT,tiA, e0, h0, h5, h6, w64, hr2, hml, zaR, hsl, ec, AH.setCells_setCells]
            refine ⟨⟨by omega, by omega⟩, by omega, ⟨by omega, by omega⟩, by omega, ?_⟩
            obtain ⟨g1, gf⟩ := fin (H''.setCells H'.next (ints (cround n r))) (hup2.set (Nat.le_refl _) _) hnx2 (by rw [AH.setCells_row, if_pos rfl, hr2]; rfl)
            have g2 : (H''.setCells H'.next (ints (cround n r))).row H'.next = some ⟨67, true, ints (cround n r)⟩ := by rw [AH.setCells_row, if_pos rfl, hr2]; rfl
            have g3 := hup2.set (Nat.le_refl _) (ints (cround n r))
            have g4 : (H''.setCells H'.next (ints (cround n r))).next = H'.next + 1 := hnx2
            revert g1 gf g2 g3 g4
            generalize H''.setCells H'.next (ints (cround n r)) = H3
            intro g1 gf g2 g3 g4
            try simp (disch := first | omega | (simp only [za1, List.length_replicate, za6, za9, zaB] <;> omega)) only [Sall,evalOp,init,binA_s,binE,binI,unE,convE,okNil,builtE,gv,TD.isAgg,resV,↓reduceIte,Nat.reduceEqDiff,reduceCtorEq,Nat.reduceAdd,Nat.reduceMul,Nat.reduceLeDiff,za0,za2,Int.reduceEq,Int.reduceLT,Int.reduceLE,Nat.reduceLT,tiA, h4, h6, g1, g2, g4, hcl, zaL, zbT, ne_eq, reduceCtorEq]
            have h3f : Fr 14 67 lo hi (H3.push ⟨67, true, ints (cround n r)⟩) u r (zaW n r) := gf.same fun i _ hi => by rw [AH.push_row, if_neg (by omega)]
            refine zgH h3f rfl (by omega) (by rw [hcl]) (by omega) (by decide) (by omega) (by rw [AH.push_next]; omega) ?_
            intro v' H4 k1 k2 k3
            rw [AH.push_next] at k1 k2 k3
            have k4 : H4.row (H.next + 2) = some ⟨26, true, [.int .i64 n, u]⟩ := by rw [k2 _ (by omega) (by omega), AH.push_row, if_neg (by omega), g1]
            have k5 := k3.rd.one
            try simp (disch := first | omega | (simp only [za1, List.length_replicate, za6, za9, zaB] <;> omega)) only [Sall,evalOp,init,binA_s,binE,binI,unE,convE,okNil,builtE,gv,TD.isAgg,resV,↓reduceIte,Nat.reduceEqDiff,reduceCtorEq,Nat.reduceAdd,Nat.reduceMul,Nat.reduceLeDiff,za0,za2,Int.reduceEq,Int.reduceLT,Int.reduceLE,Nat.reduceLT,tiA, h3, h6, h4, h0, h2, h5, k4, k5, w64, List.set_cons_succ, List.set_cons_zero]
            refine ⟨oddUp n - (r + 1), by omega, r + 1, v', H3.next + 1, H3.next + 2, rfl, by omega, by omega, ?_, ?_, rfl, ?_, by omega, by omega, by omega⟩
            · refine Up.set ⟨by omega, fun i hi => ?_⟩ (by omega) _
              rw [k2 i (by omega) (by omega), AH.push_row, if_neg (by omega), g3.row i (by omega), hup.row i hi]
            · rw [k2 _ (by omega) (by omega), AH.push_row, if_neg (by omega), g3.row _ (by omega), hr0]
            · rw [zcM]
              refine k3.same ?_
              intro i hi _
              rw [AH.setCells_row, if_neg (by omega)]
          · have e0 : (((n % 2 : Nat) : Int) == 0) = false := by rw [beq_eq_false_iff_ne]; omega
            try simp (disch := first | omega | (simp only [za1, List.length_replicate, za6, za9, zaB] <;> omega)) only [Sall,evalOp,init,binA_s,binE,binI,unE,convE,okNil,builtE,gv,TD.isAgg,resV,↓reduceIte,Nat.reduceEqDiff,reduceCtorEq,Nat.reduceAdd,Nat.reduceMul,Nat.reduceLeDiff,za0,za2,Int.reduceEq,Int.reduceLT,Int.reduceLE,Nat.reduceLT,tiA, e0, h0, h5, h6, w64]
            have ec : cmid n r (oddUp n) = cround n r := by
              unfold cround; rw [if_neg h2n]
            rw [ec] at hr2
            obtain ⟨g1, gf⟩ := fin H'' hup2 hnx2 hr2
            have g2 := hr2
            have g3 := hup2
            have g4 := hnx2
            revert g1 gf g2 g3 g4
            generalize H'' = H3
            intro g1 gf g2 g3 g4
            try simp (disch := first | omega | (simp only [za1, List.length_replicate, za6, za9, zaB] <;> omega)) only [Sall,evalOp,init,binA_s,binE,binI,unE,convE,okNil,builtE,gv,TD.isAgg,resV,↓reduceIte,Nat.reduceEqDiff,reduceCtorEq,Nat.reduceAdd,Nat.reduceMul,Nat.reduceLeDiff,za0,za2,Int.reduceEq,Int.reduceLT,Int.reduceLE,Nat.reduceLT,tiA, h4, h6, g1, g2, g4, hcl, zaL, zbT, ne_eq, reduceCtorEq]
            have h3f : Fr 14 67 lo hi (H3.push ⟨67, true, ints (cround n r)⟩) u r (zaW n r) := gf.same fun i _ hi => by rw [AH.push_row, if_neg (by omega)]
            refine zgH h3f rfl (by omega) (by rw [hcl]) (by omega) (by decide) (by omega) (by rw [AH.push_next]; omega) ?_
            intro v' H4 k1 k2 k3
            rw [AH.push_next] at k1 k2 k3
            have k4 : H4.row (H.next + 2) = some ⟨26, true, [.int .i64 n, u]⟩ := by rw [k2 _ (by omega) (by omega), AH.push_row, if_neg (by omega), g1]
            have k5 := k3.rd.one
            try simp (disch := first | omega | (simp only [za1, List.length_replicate, za6, za9, zaB] <;> omega)) only [Sall,evalOp,init,binA_s,binE,binI,unE,convE,okNil,builtE,gv,TD.isAgg,resV,↓reduceIte,Nat.reduceEqDiff,reduceCtorEq,Nat.reduceAdd,Nat.reduceMul,Nat.reduceLeDiff,za0,za2,Int.reduceEq,Int.reduceLT,Int.reduceLE,Nat.reduceLT,tiA, h3, h6, h4, h0, h2, h5, k4, k5, w64, List.set_cons_succ, List.set_cons_zero]
            refine ⟨oddUp n - (r + 1), by omega, r + 1, v', H3.next + 1, H3.next + 2, rfl, by omega, by omega, ?_, ?_, rfl, ?_, by omega, by omega, by omega⟩
            · refine Up.set ⟨by omega, fun i hi => ?_⟩ (by omega) _
              rw [k2 i (by omega) (by omega), AH.push_row, if_neg (by omega), g3.row i (by omega), hup.row i hi]
            · rw [k2 _ (by omega) (by omega), AH.push_row, if_neg (by omega), g3.row _ (by omega), hr0]
            · rw [zcM]
              refine k3.same ?_
              intro i hi _
              rw [AH.setCells_row, if_neg (by omega)]
    · have hrm : r = oddUp n := by omega
      have hne : ¬ (H.next + 2 = H.next) := by omega
      try simp (disch := first | omega | (simp only [za1, List.length_replicate, za6, za9, zaB] <;> omega)) only [Sall,evalOp,init,binA_s,binE,binI,unE,convE,okNil,builtE,gv,TD.isAgg,resV,↓reduceIte,Nat.reduceEqDiff,reduceCtorEq,Nat.reduceAdd,Nat.reduceMul,Nat.reduceLeDiff,za0,za2,Int.reduceEq,Int.reduceLT,Int.reduceLE,Nat.reduceLT,tiA, h4, h2, hr0, hr1]
      refine ⟨u, rfl, hup.set (Nat.le_refl _) _, ?_⟩
      rw [← hrm]
      exact (Fr.wide (hfr.same (H' := H'.setCells H.next [.int .i64 n, u]) fun i hi _ => by rw [AH.setCells_row, if_neg (by omega)]) (by omega) (by rw [AH.setCells_next]; omega))
end Go.Proofs.YtemgclojolmhbaaGreat.A
end

section
set_option maxRecDepth 100000
namespace Go.Proofs.YtemgclojolmhbaaGreat.A
open Go Go.Abs Go.RowKit
end Go.Proofs.YtemgclojolmhbaaGreat.A
end

section
set_option maxRecDepth 100000
namespace Go.Proofs.YtemgclojolmhbaaGreat.A
open Go Go.Abs Go.RowKit
end Go.Proofs.YtemgclojolmhbaaGreat.A
end

section
set_option maxRecDepth 100000
namespace Go.Proofs.YtemgclojolmhbaaGreat.A
open Go Go.Abs Go.RowKit
theorem zc2 (n lo hi : Int) (H : AH) : ACalls Tryz.prog 48 [.int .i64 n, .int .i64 lo, .int .i64 hi] H (is (.bool (decide (lo ≤ n ∧ n ≤ hi))) H) := by
  refine za3 [.tmp 6] Tryz.func48 (by kernel_rfl) rfl rfl (Nat.le_of_ble_eq_true rfl) (by kernel_rfl) ?_
  by_cases h : lo ≤ n
  · try simp (disch := first | omega | (simp only [za1, List.length_replicate] <;> omega)) only [Sall,evalOp,init,binA_s,binE,binI,unE,convE,okNil,builtE,gv,TD.isAgg,resV,↓reduceIte,Nat.reduceEqDiff,reduceCtorEq,Nat.reduceAdd,Nat.reduceMul,Nat.reduceLeDiff,za0,za2,Int.reduceEq,Int.reduceLT,Int.reduceLE,Nat.reduceLT,tiA, h, decide_true, is]
  · try simp (disch := first | omega | (simp only [za1, List.length_replicate] <;> omega)) only [Sall,evalOp,init,binA_s,binE,binI,unE,convE,okNil,builtE,gv,TD.isAgg,resV,↓reduceIte,Nat.reduceEqDiff,reduceCtorEq,Nat.reduceAdd,Nat.reduceMul,Nat.reduceLeDiff,za0,za2,Int.reduceEq,Int.reduceLT,Int.reduceLE,Nat.reduceLT,tiA, h, decide_false, is, false_and]
theorem ze7 (n lo hi : Int) (H : AH) : ACalls Tryz.prog 49 [.int .i64 n, .int .i64 lo, .int .i64 hi] H (is (.bool (decide (lo ≤ n ∧ n ≤ hi))) H) := by
  refine za3 [.tmp 6] Tryz.func49 (by kernel_rfl) rfl rfl (Nat.le_of_ble_eq_true rfl) (by kernel_rfl) ?_
  by_cases h : lo ≤ n
  · try simp (disch := first | omega | (simp only [za1, List.length_replicate] <;> omega)) only [Sall,evalOp,init,binA_s,binE,binI,unE,convE,okNil,builtE,gv,TD.isAgg,resV,↓reduceIte,Nat.reduceEqDiff,reduceCtorEq,Nat.reduceAdd,Nat.reduceMul,Nat.reduceLeDiff,za0,za2,Int.reduceEq,Int.reduceLT,Int.reduceLE,Nat.reduceLT,tiA, h, decide_true, is]
  · try simp (disch := first | omega | (simp only [za1, List.length_replicate] <;> omega)) only [Sall,evalOp,init,binA_s,binE,binI,unE,convE,okNil,builtE,gv,TD.isAgg,resV,↓reduceIte,Nat.reduceEqDiff,reduceCtorEq,Nat.reduceAdd,Nat.reduceMul,Nat.reduceLeDiff,za0,za2,Int.reduceEq,Int.reduceLT,Int.reduceLE,Nat.reduceLT,tiA, h, decide_false, is, false_and]
theorem l01Round_c (n : Int) (r : List Int) (hr : r.length = 14) (H : AH) : ACalls Tryz.prog 79 [.int .i64 n, .agg (ints r).toArray] H (is (.bool (roundB n r)) H) := by
  refine zaY rfl (za3 [.tmp 4] Tryz.func79 (by kernel_rfl) rfl rfl (Nat.le_of_ble_eq_true rfl) (by kernel_rfl) ?_)
  have up : Up H.next H (H.push ⟨67, true, ints r⟩) := (Up.refl _ H).push (Nat.le_refl _) _
  try simp (disch := first | omega | (simp only [za1, List.length_replicate] <;> omega)) only [Sall,evalOp,init,binA_s,binE,binI,unE,convE,okNil,builtE,gv,TD.isAgg,resV,↓reduceIte,Nat.reduceEqDiff,reduceCtorEq,Nat.reduceAdd,Nat.reduceMul,Nat.reduceLeDiff,za0,za2,Int.reduceEq,Int.reduceLT,Int.reduceLE,Nat.reduceLT,tiA, true_and]
  refine (ze7 _ _ _ _).to ?_
  by_cases hn : 2 ≤ n ∧ n ≤ 14
  · try simp (disch := first | omega | (simp only [za1, List.length_replicate] <;> omega)) only [Sall,evalOp,init,binA_s,binE,binI,unE,convE,okNil,builtE,gv,TD.isAgg,resV,↓reduceIte,Nat.reduceEqDiff,reduceCtorEq,Nat.reduceAdd,Nat.reduceMul,Nat.reduceLeDiff,za0,za2,Int.reduceEq,Int.reduceLT,Int.reduceLE,Nat.reduceLT,tiA, hn, decide_true, Bool.not_true]
    refine za5 (fun m t H' => ∃ a : Nat, m = 14 - a ∧ a ≤ 14 ∧ t 5 = .int .i64 a ∧ t 0 = .int .i64 n ∧ t 3 = .pointer (some ⟨H.next, 0, none⟩) ∧ H' = H.push ⟨67, true, ints r⟩ ∧ (∀ x, x < a → okAt n r x = true)) 14 ?_ ?_
    · refine ⟨0, by omega, by omega, ?_⟩
      try simp (disch := first | omega | (simp only [za1, List.length_replicate] <;> omega)) only [Sall,evalOp,init,binA_s,binE,binI,unE,convE,okNil,builtE,gv,TD.isAgg,resV,↓reduceIte,Nat.reduceEqDiff,reduceCtorEq,Nat.reduceAdd,Nat.reduceMul,Nat.reduceLeDiff,za0,za2,Int.reduceEq,Int.reduceLT,Int.reduceLE,Nat.reduceLT,tiA, Int.natCast_zero, Nat.not_lt_zero, false_implies]
    · rintro m t H' ⟨a, hm, h14, h5, h0, h3, rfl, hall⟩
      try simp (disch := first | omega | (simp only [za1, List.length_replicate] <;> omega)) only [Sall,evalOp,init,binA_s,binE,binI,unE,convE,okNil,builtE,gv,TD.isAgg,resV,↓reduceIte,Nat.reduceEqDiff,reduceCtorEq,Nat.reduceAdd,Nat.reduceMul,Nat.reduceLeDiff,za0,za2,Int.reduceEq,Int.reduceLT,Int.reduceLE,Nat.reduceLT,tiA, h5]
      refine za4 (fun h => ?_) (fun h => ?_)
      · by_cases h1 : n ≤ (a : Int)
        · have h1' : ¬ (a : Int) < n := by omega
          by_cases h2 : r.getD a 0 = 0
          · have hok : okAt n r a = true := by unfold okAt; rw [if_pos h1, h2]; rfl
            try simp (disch := first | omega | (simp only [za1, List.length_replicate] <;> omega)) only [Sall,evalOp,init,binA_s,binE,binI,unE,convE,okNil,builtE,gv,TD.isAgg,resV,↓reduceIte,Nat.reduceEqDiff,reduceCtorEq,Nat.reduceAdd,Nat.reduceMul,Nat.reduceLeDiff,za0,za2,Int.reduceEq,Int.reduceLT,Int.reduceLE,Nat.reduceLT,tiA, h5, h0, h3, h1, h1', decide_true, decide_false, ints_get?, h2, bne_self_eq_false, w64]
            refine ⟨⟨by omega, by omega⟩, 14 - (a + 1), by omega, a + 1, rfl, by omega, by omega, fun x hx => ?_⟩
            by_cases e : x = a
            · rw [e]; exact hok
            · exact hall x (by omega)
          · have hok : okAt n r a = false := by unfold okAt; rw [if_pos h1]; simpa using h2
            have h2' : (r.getD a 0 != 0) = true := by simpa using h2
            try simp (disch := first | omega | (simp only [za1, List.length_replicate] <;> omega)) only [Sall,evalOp,init,binA_s,binE,binI,unE,convE,okNil,builtE,gv,TD.isAgg,resV,↓reduceIte,Nat.reduceEqDiff,reduceCtorEq,Nat.reduceAdd,Nat.reduceMul,Nat.reduceLeDiff,za0,za2,Int.reduceEq,Int.reduceLT,Int.reduceLE,Nat.reduceLT,tiA, h5, h0, h3, h1, h1', decide_true, decide_false, ints_get?, h2', w64]
            refine ⟨⟨by omega, by omega⟩, ?_⟩
            rw [zcK (by omega) hok]
            exact ⟨rfl, up⟩
        · have h1' : (a : Int) < n := by omega
          try simp (disch := first | omega | (simp only [za1, List.length_replicate] <;> omega)) only [Sall,evalOp,init,binA_s,binE,binI,unE,convE,okNil,builtE,gv,TD.isAgg,resV,↓reduceIte,Nat.reduceEqDiff,reduceCtorEq,Nat.reduceAdd,Nat.reduceMul,Nat.reduceLeDiff,za0,za2,Int.reduceEq,Int.reduceLT,Int.reduceLE,Nat.reduceLT,tiA, h5, h0, h3, h1, h1', decide_true, decide_false, ints_get?, w64]
          refine ⟨⟨by omega, by omega⟩, ?_⟩
          refine (ze7 _ _ _ _).to ?_
          by_cases h2 : 0 ≤ r.getD a 0 ∧ r.getD a 0 ≤ n - 1
          · by_cases h4 : r.getD (r.getD a 0).toNat 0 = a
            · have hok : okAt n r a = true := by unfold okAt; rw [if_neg h1, h4]; simp only [h2, decide_true, Bool.true_and, beq_self_eq_true, and_self]
              try simp (disch := first | omega | (simp only [za1, List.length_replicate] <;> omega)) only [Sall,evalOp,init,binA_s,binE,binI,unE,convE,okNil,builtE,gv,TD.isAgg,resV,↓reduceIte,Nat.reduceEqDiff,reduceCtorEq,Nat.reduceAdd,Nat.reduceMul,Nat.reduceLeDiff,za0,za2,Int.reduceEq,Int.reduceLT,Int.reduceLE,Nat.reduceLT,tiA, h5, h0, h3, h1, h1', decide_true, decide_false, ints_get?, h2, h4, bne_self_eq_false, w64, Bool.not_true]
              refine ⟨by omega, by omega, 14 - (a + 1), by omega, a + 1, rfl, by omega, by omega, fun x hx => ?_⟩
              by_cases e : x = a
              · rw [e]; exact hok
              · exact hall x (by omega)
            · have hok : okAt n r a = false := by unfold okAt; rw [if_neg h1]; simp only [h2, decide_true, Bool.true_and, and_self]; simpa using h4
              have h4' : (r.getD (r.getD a 0).toNat 0 != (a : Int)) = true := by simpa using h4
              try simp (disch := first | omega | (simp only [za1, List.length_replicate] <;> omega)) only [Sall,evalOp,init,binA_s,binE,binI,unE,convE,okNil,builtE,gv,TD.isAgg,resV,↓reduceIte,Nat.reduceEqDiff,reduceCtorEq,Nat.reduceAdd,Nat.reduceMul,Nat.reduceLeDiff,za0,za2,Int.reduceEq,Int.reduceLT,Int.reduceLE,Nat.reduceLT,tiA, h5, h0, h3, h1, h1', decide_true, decide_false, ints_get?, h2, h4', w64, Bool.not_true]
              refine ⟨by omega, by omega, ?_⟩
              rw [zcK (by omega) hok]
              exact ⟨rfl, up⟩
          · have hok : okAt n r a = false := by unfold okAt; rw [if_neg h1]; simp only [h2, decide_false, Bool.false_and]
            try simp (disch := first | omega | (simp only [za1, List.length_replicate] <;> omega)) only [Sall,evalOp,init,binA_s,binE,binI,unE,convE,okNil,builtE,gv,TD.isAgg,resV,↓reduceIte,Nat.reduceEqDiff,reduceCtorEq,Nat.reduceAdd,Nat.reduceMul,Nat.reduceLeDiff,za0,za2,Int.reduceEq,Int.reduceLT,Int.reduceLE,Nat.reduceLT,tiA, h5, h0, h3, h1, h1', decide_true, decide_false, ints_get?, h2, w64, Bool.not_false]
            rw [zcK (by omega) hok]
            exact ⟨rfl, up⟩
      · try simp (disch := first | omega | (simp only [za1, List.length_replicate] <;> omega)) only [Sall,evalOp,init,binA_s,binE,binI,unE,convE,okNil,builtE,gv,TD.isAgg,resV,↓reduceIte,Nat.reduceEqDiff,reduceCtorEq,Nat.reduceAdd,Nat.reduceMul,Nat.reduceLeDiff,za0,za2,Int.reduceEq,Int.reduceLT,Int.reduceLE,Nat.reduceLT,tiA, true_and]
        rw [zdH hn fun x hx => hall x (by omega)]
        exact ⟨rfl, up⟩
  · try simp (disch := first | omega | (simp only [za1, List.length_replicate] <;> omega)) only [Sall,evalOp,init,binA_s,binE,binI,unE,convE,okNil,builtE,gv,TD.isAgg,resV,↓reduceIte,Nat.reduceEqDiff,reduceCtorEq,Nat.reduceAdd,Nat.reduceMul,Nat.reduceLeDiff,za0,za2,Int.reduceEq,Int.reduceLT,Int.reduceLE,Nat.reduceLT,tiA, hn, decide_false, Bool.not_false]
    rw [zeH hn]
    exact ⟨rfl, up⟩
theorem IsRound_c (n : Int) (r : List Int) (hr : r.length = 14) (H : AH) : ACalls Tryz.prog 101 [.int .i64 n, .agg (ints r).toArray] H (is (.bool (roundB n r)) H) := by
  refine zaY rfl (za3 [.tmp 4] Tryz.func101 (by kernel_rfl) rfl rfl (Nat.le_of_ble_eq_true rfl) (by kernel_rfl) ?_)
  have up : Up H.next H (H.push ⟨67, true, ints r⟩) := (Up.refl _ H).push (Nat.le_refl _) _
  try simp (disch := first | omega | (simp only [za1, List.length_replicate] <;> omega)) only [Sall,evalOp,init,binA_s,binE,binI,unE,convE,okNil,builtE,gv,TD.isAgg,resV,↓reduceIte,Nat.reduceEqDiff,reduceCtorEq,Nat.reduceAdd,Nat.reduceMul,Nat.reduceLeDiff,za0,za2,Int.reduceEq,Int.reduceLT,Int.reduceLE,Nat.reduceLT,tiA, true_and]
  refine (zc2 _ _ _ _).to ?_
  by_cases hn : 2 ≤ n ∧ n ≤ 14
  · try simp (disch := first | omega | (simp only [za1, List.length_replicate] <;> omega)) only [Sall,evalOp,init,binA_s,binE,binI,unE,convE,okNil,builtE,gv,TD.isAgg,resV,↓reduceIte,Nat.reduceEqDiff,reduceCtorEq,Nat.reduceAdd,Nat.reduceMul,Nat.reduceLeDiff,za0,za2,Int.reduceEq,Int.reduceLT,Int.reduceLE,Nat.reduceLT,tiA, hn, decide_true, Bool.not_true]
    refine ⟨by omega, ?_⟩
    refine za5 (fun m t H' => ∃ a : Nat, m = 14 - a ∧ a ≤ 14 ∧ t 11 = .int .i64 a ∧ t 10 = .agg (ints r).toArray ∧ t 0 = .int .i64 n ∧ t 3 = .pointer (some ⟨H.next, 0, none⟩) ∧ H' = H.push ⟨67, true, ints r⟩ ∧ (∀ x, x < a → okAt n r x = true)) 14 ?_ ?_
    · refine ⟨0, by omega, by omega, ?_⟩
      try simp (disch := first | omega | (simp only [za1, List.length_replicate] <;> omega)) only [Sall,evalOp,init,binA_s,binE,binI,unE,convE,okNil,builtE,gv,TD.isAgg,resV,↓reduceIte,Nat.reduceEqDiff,reduceCtorEq,Nat.reduceAdd,Nat.reduceMul,Nat.reduceLeDiff,za0,za2,Int.reduceEq,Int.reduceLT,Int.reduceLE,Nat.reduceLT,tiA, Int.natCast_zero, Nat.not_lt_zero, false_implies]
    · rintro m t H' ⟨a, hm, h14, h5, h10, h0, h3, rfl, hall⟩
      try simp (disch := first | omega | (simp only [za1, List.length_replicate] <;> omega)) only [Sall,evalOp,init,binA_s,binE,binI,unE,convE,okNil,builtE,gv,TD.isAgg,resV,↓reduceIte,Nat.reduceEqDiff,reduceCtorEq,Nat.reduceAdd,Nat.reduceMul,Nat.reduceLeDiff,za0,za2,Int.reduceEq,Int.reduceLT,Int.reduceLE,Nat.reduceLT,tiA, h5]
      refine za4 (fun h => ?_) (fun h => ?_)
      · by_cases h1 : n ≤ (a : Int)
        · have h1' : ¬ (a : Int) < n := by omega
          by_cases h2 : r.getD a 0 = 0
          · have hok : okAt n r a = true := by unfold okAt; rw [if_pos h1, h2]; rfl
            try simp (disch := first | omega | (simp only [za1, List.length_replicate] <;> omega)) only [Sall,evalOp,init,binA_s,binE,binI,unE,convE,okNil,builtE,gv,TD.isAgg,resV,↓reduceIte,Nat.reduceEqDiff,reduceCtorEq,Nat.reduceAdd,Nat.reduceMul,Nat.reduceLeDiff,za0,za2,Int.reduceEq,Int.reduceLT,Int.reduceLE,Nat.reduceLT,tiA, h5, h10, h0, h3, h1, h1', decide_true, decide_false, ints_get?, h2, bne_self_eq_false, w64]
            refine ⟨⟨by omega, by omega⟩, 14 - (a + 1), by omega, a + 1, rfl, by omega, by omega, fun x hx => ?_⟩
            by_cases e : x = a
            · rw [e]; exact hok
            · exact hall x (by omega)
          · have hok : okAt n r a = false := by unfold okAt; rw [if_pos h1]; simpa using h2
            have h2' : (r.getD a 0 != 0) = true := by simpa using h2
            try simp (disch := first | omega | (simp only [za1, List.length_replicate] <;> omega)) only [Sall,evalOp,init,binA_s,binE,binI,unE,convE,okNil,builtE,gv,TD.isAgg,resV,↓reduceIte,Nat.reduceEqDiff,reduceCtorEq,Nat.reduceAdd,Nat.reduceMul,Nat.reduceLeDiff,za0,za2,Int.reduceEq,Int.reduceLT,Int.reduceLE,Nat.reduceLT,tiA, h5, h10, h0, h3, h1, h1', decide_true, decide_false, ints_get?, h2', w64]
            refine ⟨⟨by omega, by omega⟩, ?_⟩
            rw [zcK (by omega) hok]
            exact ⟨rfl, up⟩
        · have h1' : (a : Int) < n := by omega
          try simp (disch := first | omega | (simp only [za1, List.length_replicate] <;> omega)) only [Sall,evalOp,init,binA_s,binE,binI,unE,convE,okNil,builtE,gv,TD.isAgg,resV,↓reduceIte,Nat.reduceEqDiff,reduceCtorEq,Nat.reduceAdd,Nat.reduceMul,Nat.reduceLeDiff,za0,za2,Int.reduceEq,Int.reduceLT,Int.reduceLE,Nat.reduceLT,tiA, h5, h10, h0, h3, h1, h1', decide_true, decide_false, ints_get?, w64]
          refine ⟨⟨by omega, by omega⟩, ?_⟩
          refine (zc2 _ _ _ _).to ?_
          by_cases h2 : 0 ≤ r.getD a 0 ∧ r.getD a 0 ≤ n - 1
          · by_cases h4 : r.getD (r.getD a 0).toNat 0 = a
            · have hok : okAt n r a = true := by unfold okAt; rw [if_neg h1, h4]; simp only [h2, decide_true, Bool.true_and, beq_self_eq_true, and_self]
              try simp (disch := first | omega | (simp only [za1, List.length_replicate] <;> omega)) only [Sall,evalOp,init,binA_s,binE,binI,unE,convE,okNil,builtE,gv,TD.isAgg,resV,↓reduceIte,Nat.reduceEqDiff,reduceCtorEq,Nat.reduceAdd,Nat.reduceMul,Nat.reduceLeDiff,za0,za2,Int.reduceEq,Int.reduceLT,Int.reduceLE,Nat.reduceLT,tiA, h5, h10, h0, h3, h1, h1', decide_true, decide_false, ints_get?, h2, h4, bne_self_eq_false, w64, Bool.not_true]
              refine ⟨by omega, 14 - (a + 1), by omega, a + 1, rfl, by omega, by omega, fun x hx => ?_⟩
              by_cases e : x = a
              · rw [e]; exact hok
              · exact hall x (by omega)
            · have hok : okAt n r a = false := by unfold okAt; rw [if_neg h1]; simp only [h2, decide_true, Bool.true_and, and_self]; simpa using h4
              have h4' : (r.getD (r.getD a 0).toNat 0 != (a : Int)) = true := by simpa using h4
              try simp (disch := first | omega | (simp only [za1, List.length_replicate] <;> omega)) only [Sall,evalOp,init,binA_s,binE,binI,unE,convE,okNil,builtE,gv,TD.isAgg,resV,↓reduceIte,Nat.reduceEqDiff,reduceCtorEq,Nat.reduceAdd,Nat.reduceMul,Nat.reduceLeDiff,za0,za2,Int.reduceEq,Int.reduceLT,Int.reduceLE,Nat.reduceLT,tiA, h5, h10, h0, h3, h1, h1', decide_true, decide_false, ints_get?, h2, h4', w64, Bool.not_true]
              refine ⟨by omega, ?_⟩
              rw [zcK (by omega) hok]
              exact ⟨rfl, up⟩
          · have hok : okAt n r a = false := by unfold okAt; rw [if_neg h1]; simp only [h2, decide_false, Bool.false_and]
            try simp (disch := first | omega | (simp only [za1, List.length_replicate] <;> omega)) only [Sall,evalOp,init,binA_s,binE,binI,unE,convE,okNil,builtE,gv,TD.isAgg,resV,↓reduceIte,Nat.reduceEqDiff,reduceCtorEq,Nat.reduceAdd,Nat.reduceMul,Nat.reduceLeDiff,za0,za2,Int.reduceEq,Int.reduceLT,Int.reduceLE,Nat.reduceLT,tiA, h5, h10, h0, h3, h1, h1', decide_true, decide_false, ints_get?, h2, w64, Bool.not_false]
            rw [zcK (by omega) hok]
            exact ⟨rfl, up⟩
      · try simp (disch := first | omega | (simp only [za1, List.length_replicate] <;> omega)) only [Sall,evalOp,init,binA_s,binE,binI,unE,convE,okNil,builtE,gv,TD.isAgg,resV,↓reduceIte,Nat.reduceEqDiff,reduceCtorEq,Nat.reduceAdd,Nat.reduceMul,Nat.reduceLeDiff,za0,za2,Int.reduceEq,Int.reduceLT,Int.reduceLE,Nat.reduceLT,tiA, true_and]
        rw [zdH hn fun x hx => hall x (by omega)]
        exact ⟨rfl, up⟩
  · try simp (disch := first | omega | (simp only [za1, List.length_replicate] <;> omega)) only [Sall,evalOp,init,binA_s,binE,binI,unE,convE,okNil,builtE,gv,TD.isAgg,resV,↓reduceIte,Nat.reduceEqDiff,reduceCtorEq,Nat.reduceAdd,Nat.reduceMul,Nat.reduceLeDiff,za0,za2,Int.reduceEq,Int.reduceLT,Int.reduceLE,Nat.reduceLT,tiA, hn, decide_false, Bool.not_false]
    rw [zeH hn]
    exact ⟨rfl, up⟩
theorem zhY (q : Int) (v : Value) (k : Nat) (l : List Int) (H : AH) (hv : Rd 14 H v k l) (hk : k ≤ 4294967296) : ACalls Tryz.prog 42 [.agg #[.int .i64 q, v]] H (is (.bool (schedB q k l)) H) := by
  refine ACalls.wf (by kernel_rfl) fun hs => zaY rfl (za3 [.tmp 2] Tryz.func42 (by kernel_rfl) rfl rfl (Nat.le_of_ble_eq_true rfl) (by kernel_rfl) ?_)
  have up : Up H.next H (H.push ⟨26, true, [.int .i64 q, v]⟩) := (Up.refl _ H).push (Nat.le_refl _) _
  have hv1 := hv.same (up.le hs).row
  have e1 : (H.push ⟨26, true, [.int .i64 q, v]⟩).row H.next = some ⟨26, true, [.int .i64 q, v]⟩ := by rw [AH.push_row, if_pos rfl]
  try simp (disch := first | omega | (simp only [za1, List.length_replicate] <;> omega)) only [Sall,evalOp,init,binA_s,binE,binI,unE,convE,okNil,builtE,gv,TD.isAgg,resV,↓reduceIte,Nat.reduceEqDiff,reduceCtorEq,Nat.reduceAdd,Nat.reduceMul,Nat.reduceLeDiff,za0,za2,Int.reduceEq,Int.reduceLT,Int.reduceLE,Nat.reduceLT,tiA, true_and]
  refine (ze7 _ _ _ _).to ?_
  revert up hv1 e1
  generalize H.push ⟨26, true, [.int .i64 q, v]⟩ = H1
  intro up hv1 e1
  by_cases hn : 2 ≤ q ∧ q ≤ 14
  · by_cases h40 : k ≤ 40
    · have h40' : ¬ (40 : Int) < k := by omega
      try simp (disch := first | omega | (simp only [za1, List.length_replicate] <;> omega)) only [Sall,evalOp,init,binA_s,binE,binI,unE,convE,okNil,builtE,gv,TD.isAgg,resV,↓reduceIte,Nat.reduceEqDiff,reduceCtorEq,Nat.reduceAdd,Nat.reduceMul,Nat.reduceLeDiff,za0,za2,Int.reduceEq,Int.reduceLT,Int.reduceLE,Nat.reduceLT,tiA, hn, decide_true, Bool.not_true, e1, builtE, hv1.len, h40', decide_false]
      refine za5 (fun m t H' => ∃ a : Nat, m = k - a ∧ a ≤ k ∧ t 3 = .int .i64 a ∧ t 1 = .pointer (some ⟨H.next, 0, none⟩) ∧ H' = H1 ∧ (∀ x, x < a → roundB q (rnd l x) = true)) k ?_ ?_
      · refine ⟨0, by omega, by omega, ?_⟩
        try simp (disch := first | omega | (simp only [za1, List.length_replicate] <;> omega)) only [Sall,evalOp,init,binA_s,binE,binI,unE,convE,okNil,builtE,gv,TD.isAgg,resV,↓reduceIte,Nat.reduceEqDiff,reduceCtorEq,Nat.reduceAdd,Nat.reduceMul,Nat.reduceLeDiff,za0,za2,Int.reduceEq,Int.reduceLT,Int.reduceLE,Nat.reduceLT,tiA, Int.natCast_zero, Nat.not_lt_zero, false_implies]
      · rintro m t H' ⟨a, hm, h14, h3, h1, rfl, hall⟩
        try simp (disch := first | omega | (simp only [za1, List.length_replicate] <;> omega)) only [Sall,evalOp,init,binA_s,binE,binI,unE,convE,okNil,builtE,gv,TD.isAgg,resV,↓reduceIte,Nat.reduceEqDiff,reduceCtorEq,Nat.reduceAdd,Nat.reduceMul,Nat.reduceLeDiff,za0,za2,Int.reduceEq,Int.reduceLT,Int.reduceLE,Nat.reduceLT,tiA, h3, h1, e1, builtE, hv1.len]
        refine za4 (fun h => ?_) (fun h => ?_)
        · obtain ⟨i, o, u, c, r, rfl, hr, hc, hs1, hg⟩ := hv1.get (by omega)
          refine zb2 (by kernel_rfl) (by kernel_rfl) ?_
          try simp (disch := first | omega | (simp only [za1, List.length_replicate] <;> omega)) only [Sall,evalOp,init,binA_s,binE,binI,unE,convE,okNil,builtE,gv,TD.isAgg,resV,↓reduceIte,Nat.reduceEqDiff,reduceCtorEq,Nat.reduceAdd,Nat.reduceMul,Nat.reduceLeDiff,za0,za2,Int.reduceEq,Int.reduceLT,Int.reduceLE,Nat.reduceLT,tiA, h3, h1, e1, hr, hg]
          refine ⟨⟨by omega, by omega⟩, by omega, (l01Round_c _ _ ?_ _).to ⟨.inr (.inr (LE.refl _)), ?_⟩⟩
          · rw [List.length_take, List.length_drop, hv.1]; omega
          · cases hb : roundB q (List.take 14 (List.drop (a * 14) l)) with
            | true =>
              try simp (disch := first | omega | (simp only [za1, List.length_replicate] <;> omega)) only [Sall,evalOp,init,binA_s,binE,binI,unE,convE,okNil,builtE,gv,TD.isAgg,resV,↓reduceIte,Nat.reduceEqDiff,reduceCtorEq,Nat.reduceAdd,Nat.reduceMul,Nat.reduceLeDiff,za0,za2,Int.reduceEq,Int.reduceLT,Int.reduceLE,Nat.reduceLT,tiA, h3, h1, Bool.not_true, w64]
              refine ⟨k - (a + 1), by omega, a + 1, rfl, by omega, by omega, fun x hx => ?_⟩
              by_cases e : x = a
              · rw [e]; exact hb
              · exact hall x (by omega)
            | false =>
              try simp (disch := first | omega | (simp only [za1, List.length_replicate] <;> omega)) only [Sall,evalOp,init,binA_s,binE,binI,unE,convE,okNil,builtE,gv,TD.isAgg,resV,↓reduceIte,Nat.reduceEqDiff,reduceCtorEq,Nat.reduceAdd,Nat.reduceMul,Nat.reduceLeDiff,za0,za2,Int.reduceEq,Int.reduceLT,Int.reduceLE,Nat.reduceLT,tiA, h3, h1, Bool.not_false]
              unfold schedB
              rw [zbH (p := fun i => roundB q (rnd l i)) (i := a) (by omega) hb, Bool.and_false]
              exact ⟨rfl, up⟩
        · try simp (disch := first | omega | (simp only [za1, List.length_replicate] <;> omega)) only [Sall,evalOp,init,binA_s,binE,binI,unE,convE,okNil,builtE,gv,TD.isAgg,resV,↓reduceIte,Nat.reduceEqDiff,reduceCtorEq,Nat.reduceAdd,Nat.reduceMul,Nat.reduceLeDiff,za0,za2,Int.reduceEq,Int.reduceLT,Int.reduceLE,Nat.reduceLT,tiA, true_and]
          unfold schedB
          rw [zbU (p := fun i => roundB q (rnd l i)) fun x hx => hall x (by omega)]
          simp only [hn, h40, decide_true, and_self, Bool.and_self, true_and]
          exact up
    · have h40' : (40 : Int) < k := by omega
      try simp (disch := first | omega | (simp only [za1, List.length_replicate] <;> omega)) only [Sall,evalOp,init,binA_s,binE,binI,unE,convE,okNil,builtE,gv,TD.isAgg,resV,↓reduceIte,Nat.reduceEqDiff,reduceCtorEq,Nat.reduceAdd,Nat.reduceMul,Nat.reduceLeDiff,za0,za2,Int.reduceEq,Int.reduceLT,Int.reduceLE,Nat.reduceLT,tiA, hn, decide_true, Bool.not_true, e1, builtE, hv1.len, h40']
      unfold schedB
      simp only [h40, decide_false, Bool.and_false, Bool.false_and, true_and]
      exact up
  · try simp (disch := first | omega | (simp only [za1, List.length_replicate] <;> omega)) only [Sall,evalOp,init,binA_s,binE,binI,unE,convE,okNil,builtE,gv,TD.isAgg,resV,↓reduceIte,Nat.reduceEqDiff,reduceCtorEq,Nat.reduceAdd,Nat.reduceMul,Nat.reduceLeDiff,za0,za2,Int.reduceEq,Int.reduceLT,Int.reduceLE,Nat.reduceLT,tiA, hn, decide_false, Bool.not_false]
    unfold schedB
    simp only [hn, decide_false, Bool.false_and, true_and]
    exact up
theorem indexFuncR_c (g : FuncId) (cap : List Value) (p : List Int → Bool) (v : Value) (k : Nat) (l : List Int) (H : AH) (hv : Rd 14 H v k l) (hk : k ≤ 4294967296)
    (hp : ∀ r : List Int, r.length = 14 → ACalls Tryz.prog g (.agg (ints r).toArray :: cap) H (is (.bool (p r)) H)) :
    ACalls Tryz.prog 104 [v, .func (.func g) #[] cap.toArray] H (is (.int .i64 (firstI (fun i => p (rnd l i)) k)) H) := by
  refine za3 [.tmp 4] Tryz.func104 (by kernel_rfl) rfl rfl (Nat.le_of_ble_eq_true rfl) (by kernel_rfl) ?_
  try simp (disch := first | omega | (simp only [za1, List.length_replicate] <;> omega)) only [Sall,evalOp,init,binA_s,binE,binI,unE,convE,okNil,builtE,gv,TD.isAgg,resV,↓reduceIte,Nat.reduceEqDiff,reduceCtorEq,Nat.reduceAdd,Nat.reduceMul,Nat.reduceLeDiff,za0,za2,Int.reduceEq,Int.reduceLT,Int.reduceLE,Nat.reduceLT,tiA, builtE, hv.len]
  refine za5 (fun m t H' => ∃ a : Nat, m = k - a ∧ a ≤ k ∧ t 8 = .int .i64 a ∧ t 7 = .int .i64 k ∧ t 0 = v ∧ t 1 = .func (.func g) #[] cap.toArray ∧ H' = H ∧ (∀ x, x < a → p (rnd l x) = false)) k ?_ ?_
  · refine ⟨0, by omega, by omega, ?_⟩
    try simp (disch := first | omega | (simp only [za1, List.length_replicate] <;> omega)) only [Sall,evalOp,init,binA_s,binE,binI,unE,convE,okNil,builtE,gv,TD.isAgg,resV,↓reduceIte,Nat.reduceEqDiff,reduceCtorEq,Nat.reduceAdd,Nat.reduceMul,Nat.reduceLeDiff,za0,za2,Int.reduceEq,Int.reduceLT,Int.reduceLE,Nat.reduceLT,tiA, Int.natCast_zero, Nat.not_lt_zero, false_implies]
  · rintro m t H' ⟨a, hm, h14, h8, h7, h0, h1, rfl, hall⟩
    try simp (disch := first | omega | (simp only [za1, List.length_replicate] <;> omega)) only [Sall,evalOp,init,binA_s,binE,binI,unE,convE,okNil,builtE,gv,TD.isAgg,resV,↓reduceIte,Nat.reduceEqDiff,reduceCtorEq,Nat.reduceAdd,Nat.reduceMul,Nat.reduceLeDiff,za0,za2,Int.reduceEq,Int.reduceLT,Int.reduceLE,Nat.reduceLT,tiA, h8, h7]
    refine za4 (fun h => ?_) (fun h => ?_)
    · obtain ⟨i, o, u, c, r, rfl, hr, hc, hs1, hg⟩ := hv.get (by omega)
      try simp (disch := first | omega | (simp only [za1, List.length_replicate] <;> omega)) only [Sall,evalOp,init,binA_s,binE,binI,unE,convE,okNil,builtE,gv,TD.isAgg,resV,↓reduceIte,Nat.reduceEqDiff,reduceCtorEq,Nat.reduceAdd,Nat.reduceMul,Nat.reduceLeDiff,za0,za2,Int.reduceEq,Int.reduceLT,Int.reduceLE,Nat.reduceLT,tiA, h8, h7, h0, h1, hr, hg]
      refine ⟨⟨by omega, by omega⟩, by omega, (hp _ ?_).to ?_⟩
      · rw [List.length_take, List.length_drop, hv.1]; omega
      · cases hb : p (List.take 14 (List.drop (a * 14) l)) with
        | true =>
          try simp (disch := first | omega | (simp only [za1, List.length_replicate] <;> omega)) only [Sall,evalOp,init,binA_s,binE,binI,unE,convE,okNil,builtE,gv,TD.isAgg,resV,↓reduceIte,Nat.reduceEqDiff,reduceCtorEq,Nat.reduceAdd,Nat.reduceMul,Nat.reduceLeDiff,za0,za2,Int.reduceEq,Int.reduceLT,Int.reduceLE,Nat.reduceLT,tiA, h8, h7, h0, h1, is]
          rw [zfI (p := fun i => p (rnd l i)) (by omega) hb hall]
        | false =>
          try simp (disch := first | omega | (simp only [za1, List.length_replicate] <;> omega)) only [Sall,evalOp,init,binA_s,binE,binI,unE,convE,okNil,builtE,gv,TD.isAgg,resV,↓reduceIte,Nat.reduceEqDiff,reduceCtorEq,Nat.reduceAdd,Nat.reduceMul,Nat.reduceLeDiff,za0,za2,Int.reduceEq,Int.reduceLT,Int.reduceLE,Nat.reduceLT,tiA, h8, h7, h0, h1, w64]
          refine ⟨k - (a + 1), by omega, a + 1, rfl, by omega, by omega, fun x hx => ?_⟩
          by_cases e : x = a
          · rw [e]; exact hb
          · exact hall x (by omega)
    · try simp (disch := first | omega | (simp only [za1, List.length_replicate] <;> omega)) only [Sall,evalOp,init,binA_s,binE,binI,unE,convE,okNil,builtE,gv,TD.isAgg,resV,↓reduceIte,Nat.reduceEqDiff,reduceCtorEq,Nat.reduceAdd,Nat.reduceMul,Nat.reduceLeDiff,za0,za2,Int.reduceEq,Int.reduceLT,Int.reduceLE,Nat.reduceLT,tiA, is]
      rw [zdL (p := fun i => p (rnd l i)) fun x hx => hall x (by omega)]
theorem containsFuncR_c (g : FuncId) (cap : List Value) (p : List Int → Bool) (v : Value) (k : Nat) (l : List Int) (H : AH) (hv : Rd 14 H v k l) (hk : k ≤ 4294967296)
    (hp : ∀ r : List Int, r.length = 14 → ACalls Tryz.prog g (.agg (ints r).toArray :: cap) H (is (.bool (p r)) H)) :
    ACalls Tryz.prog 99 [v, .func (.func g) #[] cap.toArray] H (is (.bool ((List.range k).any fun i => p (rnd l i))) H) := by
  refine za3 [.tmp 4] Tryz.func99 (by kernel_rfl) rfl rfl (Nat.le_of_ble_eq_true rfl) (by kernel_rfl) ?_
  try simp (disch := first | omega | (simp only [za1, List.length_replicate] <;> omega)) only [Sall,evalOp,init,binA_s,binE,binI,unE,convE,okNil,builtE,gv,TD.isAgg,resV,↓reduceIte,Nat.reduceEqDiff,reduceCtorEq,Nat.reduceAdd,Nat.reduceMul,Nat.reduceLeDiff,za0,za2,Int.reduceEq,Int.reduceLT,Int.reduceLE,Nat.reduceLT,tiA, true_and]
  refine (indexFuncR_c g cap p v k l H hv hk hp).to ?_
  try simp (disch := first | omega | (simp only [za1, List.length_replicate] <;> omega)) only [Sall,evalOp,init,binA_s,binE,binI,unE,convE,okNil,builtE,gv,TD.isAgg,resV,↓reduceIte,Nat.reduceEqDiff,reduceCtorEq,Nat.reduceAdd,Nat.reduceMul,Nat.reduceLeDiff,za0,za2,Int.reduceEq,Int.reduceLT,Int.reduceLE,Nat.reduceLT,tiA, is, ze8]
theorem IsSchedule1_c (q : Int) (u : Value) (x : Nat) (r : List Int) (hr : r.length = 14) (H : AH) (hx : H.row x = some ⟨26, true, [.int .i64 q, u]⟩) :
    ACalls Tryz.prog 100 [.agg (ints r).toArray, .pointer (some ⟨x, 0, none⟩)] H (is (.bool (!roundB q r)) H) := by
  refine ACalls.wf (by kernel_rfl) fun hs => zaY rfl (za3 [.tmp 3] Tryz.func100 (by kernel_rfl) rfl rfl (Nat.le_of_ble_eq_true rfl) (by kernel_rfl) ?_)
  have hne : ¬ x = H.next := by have := hs x _ hx; omega
  try simp (disch := first | omega | (simp only [za1, List.length_replicate] <;> omega)) only [Sall,evalOp,init,binA_s,binE,binI,unE,convE,okNil,builtE,gv,TD.isAgg,resV,↓reduceIte,Nat.reduceEqDiff,reduceCtorEq,Nat.reduceAdd,Nat.reduceMul,Nat.reduceLeDiff,za0,za2,Int.reduceEq,Int.reduceLT,Int.reduceLE,Nat.reduceLT,tiA, hx, hne, hr]
  refine (IsRound_c _ _ hr _).to ?_
  try simp (disch := first | omega | (simp only [za1, List.length_replicate] <;> omega)) only [Sall,evalOp,init,binA_s,binE,binI,unE,convE,okNil,builtE,gv,TD.isAgg,resV,↓reduceIte,Nat.reduceEqDiff,reduceCtorEq,Nat.reduceAdd,Nat.reduceMul,Nat.reduceLeDiff,za0,za2,Int.reduceEq,Int.reduceLT,Int.reduceLE,Nat.reduceLT,tiA, true_and]
  exact (Up.refl _ H).push (Nat.le_refl _) _
theorem IsSchedule_c (q : Int) (v : Value) (k : Nat) (l : List Int) (H : AH) (hv : Rd 14 H v k l) (hk : k ≤ 4294967296) : ACalls Tryz.prog 78 [.agg #[.int .i64 q, v]] H (is (.bool (schedB q k l)) H) := by
  refine ACalls.wf (by kernel_rfl) fun hs => zaY rfl (za3 [.tmp 2] Tryz.func78 (by kernel_rfl) rfl rfl (Nat.le_of_ble_eq_true rfl) (by kernel_rfl) ?_)
  have up : Up H.next H (H.push ⟨26, true, [.int .i64 q, v]⟩) := (Up.refl _ H).push (Nat.le_refl _) _
  have hv1 := hv.same (up.le hs).row
  have e1 : (H.push ⟨26, true, [.int .i64 q, v]⟩).row H.next = some ⟨26, true, [.int .i64 q, v]⟩ := by rw [AH.push_row, if_pos rfl]
  try simp (disch := first | omega | (simp only [za1, List.length_replicate] <;> omega)) only [Sall,evalOp,init,binA_s,binE,binI,unE,convE,okNil,builtE,gv,TD.isAgg,resV,↓reduceIte,Nat.reduceEqDiff,reduceCtorEq,Nat.reduceAdd,Nat.reduceMul,Nat.reduceLeDiff,za0,za2,Int.reduceEq,Int.reduceLT,Int.reduceLE,Nat.reduceLT,tiA, true_and]
  refine (zc2 _ _ _ _).to ?_
  revert up hv1 e1
  generalize H.push ⟨26, true, [.int .i64 q, v]⟩ = H1
  intro up hv1 e1
  by_cases hn : 2 ≤ q ∧ q ≤ 14
  · by_cases h40 : k ≤ 40
    · have h40' : (k : Int) ≤ 40 := by omega
      try simp (disch := first | omega | (simp only [za1, List.length_replicate] <;> omega)) only [Sall,evalOp,init,binA_s,binE,binI,unE,convE,okNil,builtE,gv,TD.isAgg,resV,↓reduceIte,Nat.reduceEqDiff,reduceCtorEq,Nat.reduceAdd,Nat.reduceMul,Nat.reduceLeDiff,za0,za2,Int.reduceEq,Int.reduceLT,Int.reduceLE,Nat.reduceLT,tiA, hn, decide_true, e1, builtE, hv1.len, h40', List.mem_cons, List.not_mem_nil, or_false, forall_eq, Array.size_empty]
      refine (containsFuncR_c 100 [.pointer (some ⟨H.next, 0, none⟩)] (fun r => !roundB q r) v k l H1 hv1 hk fun r hr => IsSchedule1_c q v H.next r hr H1 e1).to ?_
      try simp (disch := first | omega | (simp only [za1, List.length_replicate] <;> omega)) only [Sall,evalOp,init,binA_s,binE,binI,unE,convE,okNil,builtE,gv,TD.isAgg,resV,↓reduceIte,Nat.reduceEqDiff,reduceCtorEq,Nat.reduceAdd,Nat.reduceMul,Nat.reduceLeDiff,za0,za2,Int.reduceEq,Int.reduceLT,Int.reduceLE,Nat.reduceLT,tiA, true_and]
      rw [zeU]
      simp only [hn, h40, decide_true, and_self, Bool.true_and, true_and]
      exact up
    · have h40' : ¬ (k : Int) ≤ 40 := by omega
      try simp (disch := first | omega | (simp only [za1, List.length_replicate] <;> omega)) only [Sall,evalOp,init,binA_s,binE,binI,unE,convE,okNil,builtE,gv,TD.isAgg,resV,↓reduceIte,Nat.reduceEqDiff,reduceCtorEq,Nat.reduceAdd,Nat.reduceMul,Nat.reduceLeDiff,za0,za2,Int.reduceEq,Int.reduceLT,Int.reduceLE,Nat.reduceLT,tiA, hn, decide_true, decide_false, e1, builtE, hv1.len, h40']
      rw [zeU]
      simp only [h40, decide_false, Bool.and_false, Bool.false_and, true_and]
      exact up
  · try simp (disch := first | omega | (simp only [za1, List.length_replicate] <;> omega)) only [Sall,evalOp,init,binA_s,binE,binI,unE,convE,okNil,builtE,gv,TD.isAgg,resV,↓reduceIte,Nat.reduceEqDiff,reduceCtorEq,Nat.reduceAdd,Nat.reduceMul,Nat.reduceLeDiff,za0,za2,Int.reduceEq,Int.reduceLT,Int.reduceLE,Nat.reduceLT,tiA, hn, decide_false]
    rw [zeU]
    simp only [hn, decide_false, Bool.false_and, true_and]
    exact up
end Go.Proofs.YtemgclojolmhbaaGreat.A
end

section
namespace Go.Abs
def pairsL (r : List Int) (k : Nat) : List (List Int) := ((List.range k).filter fun (a : Nat) => decide ((a : Int) < r.getD a 0)).map fun (a : Nat) => [(a : Int), r.getD a 0]
theorem zf1 (r : List Int) : pairsL r 0 = [] := rfl
theorem zg2 (r : List Int) (k : Nat) (h : (k : Int) < r.getD k 0) : pairsL r (k + 1) = pairsL r k ++ [[(k : Int), r.getD k 0]] := by
  unfold pairsL; rw [List.range_succ, List.filter_append, List.map_append]; simp [-List.getD_eq_getElem?_getD, h]
theorem zhL (r : List Int) (k : Nat) (h : ¬ (k : Int) < r.getD k 0) : pairsL r (k + 1) = pairsL r k := by
  unfold pairsL; rw [List.range_succ, List.filter_append, List.map_append]; simp [-List.getD_eq_getElem?_getD, h]
theorem zhQ (r : List Int) (k : Nat) : (pairsL r k).length ≤ k := by
  unfold pairsL; rw [List.length_map]; exact Nat.le_trans (List.length_filter_le _ _) (by simp)
end Go.Abs
end

section
set_option maxRecDepth 100000
namespace Go.Proofs.YtemgclojolmhbaaGreat.A
open Go Go.Abs Go.RowKit
theorem pairs_c (n : Nat) (r : List Int) (hr : r.length = 14) (hn : n ≤ 14) (H : AH) : ACalls Tryz.prog 38 [.agg (ints r).toArray, .int .i64 n] H (fun v H' => Up H.next H H' ∧ Fr2 1 33 2 H.next H'.next H' v (pairsL r n)) := by
  refine za3 [.tmp 4] Tryz.func38 (by kernel_rfl) rfl rfl (Nat.le_of_ble_eq_true rfl) (by kernel_rfl) ?_
  try simp (disch := first | omega | (simp only [za1, List.length_replicate] <;> omega)) only [Sall,evalOp,init,binA_s,binE,binI,unE,convE,okNil,builtE,gv,TD.isAgg,resV,↓reduceIte,Nat.reduceEqDiff,reduceCtorEq,Nat.reduceAdd,Nat.reduceMul,Nat.reduceLeDiff,za0,za2,Int.reduceEq,Int.reduceLT,Int.reduceLE,Nat.reduceLT,tiA, zaV]
  refine za5 (fun m t H' => ∃ (a : Nat) (u : Value) (lo hi : Nat), m = n - a ∧ a ≤ n ∧ t 9 = .int .i64 a ∧ t 8 = .int .i64 n ∧ t 5 = u ∧ t 2 = .pointer (some ⟨H.next, 0, none⟩) ∧ Up H.next H H' ∧ H'.row H.next = some ⟨67, true, ints r⟩ ∧
    H.next < lo ∧ lo ≤ hi ∧ hi ≤ H'.next ∧ Fr2 1 33 2 lo hi H' u (pairsL r a)) n ?_ ?_
  · refine ⟨0, .slice (some ⟨H.next + 1, 0, some 1⟩) 0 0, H.next + 1, H.next + 2, by omega, by omega, ?_⟩
    try simp (disch := first | omega | (simp only [za1, List.length_replicate] <;> omega)) only [Sall,evalOp,init,binA_s,binE,binI,unE,convE,okNil,builtE,gv,TD.isAgg,resV,↓reduceIte,Nat.reduceEqDiff,reduceCtorEq,Nat.reduceAdd,Nat.reduceMul,Nat.reduceLeDiff,za0,za2,Int.reduceEq,Int.reduceLT,Int.reduceLE,Nat.reduceLT,tiA, Int.natCast_zero]
    refine ⟨((Up.refl _ H).push (by omega) _).push (Nat.le_succ _) _, by omega, by omega, ?_⟩
    exact .inr ⟨H.next + 1, [], fun _ => H.next + 2, by omega, by omega, rfl, by rw [AH.push_row, if_pos (by rw [AH.push_next])], rfl, by dsimp only; omega, by dsimp only; omega, .inl (by dsimp only; omega), fun _ => Nat.le_refl _, fun j hj => by simp [zf1] at hj⟩
  · rintro m t H' ⟨a, u, lo, hi, hm, h14, h9, h8, h5, h2, hup, hr1, hlo, hlh, hhi, hfr⟩
    try simp (disch := first | omega | (simp only [za1, List.length_replicate] <;> omega)) only [Sall,evalOp,init,binA_s,binE,binI,unE,convE,okNil,builtE,gv,TD.isAgg,resV,↓reduceIte,Nat.reduceEqDiff,reduceCtorEq,Nat.reduceAdd,Nat.reduceMul,Nat.reduceLeDiff,za0,za2,Int.reduceEq,Int.reduceLT,Int.reduceLE,Nat.reduceLT,tiA, h9, h8]
    refine za4 (fun h => ?_) (fun h => ?_)
    · by_cases hp : (a : Int) < r.getD a 0
      · have hle := zhQ r a
        have ne1 : ¬ H.next = H'.next := by omega
        try simp (disch := first | omega | (simp only [za1, List.length_replicate] <;> omega)) only [Sall,evalOp,init,binA_s,binE,binI,unE,convE,okNil,builtE,gv,TD.isAgg,resV,↓reduceIte,Nat.reduceEqDiff,reduceCtorEq,Nat.reduceAdd,Nat.reduceMul,Nat.reduceLeDiff,za0,za2,Int.reduceEq,Int.reduceLT,Int.reduceLE,Nat.reduceLT,tiA, h9, h8, h5, h2, hr1, ints_get?, hp, decide_true, zbT, zhD, zaL, ne1]
        refine ⟨⟨by omega, by omega⟩, ⟨by omega, by omega⟩, ?_⟩
        obtain ⟨H2, e2⟩ : ∃ H2, H2 = (H'.push ⟨2, true, [.int .i64 a, .int .i64 (r.getD a 0)]⟩).push ⟨33, true, [.slice (some ⟨H'.next, 0, some 1⟩) 2 2]⟩ := ⟨_, rfl⟩
        have n2 : H2.next = H'.next + 2 := by rw [e2]; rfl
        have s2 : ∀ i, i < H'.next → H2.row i = H'.row i := fun i hi => by rw [e2, AH.push_row, if_neg (by rw [AH.push_next]; omega), AH.push_row, if_neg (by omega)]
        have x2 : H2.row H'.next = some ⟨2, true, ints [(a : Int), r.getD a 0]⟩ := by rw [e2, AH.push_row, if_neg (by rw [AH.push_next]; omega), AH.push_row, if_pos rfl]; rfl
        rw [← e2]
        clear e2
        refine zgW (hfr.same fun i _ hi => s2 i (by omega)) (m := 2) (l := [(a : Int), r.getD a 0]) ⟨rfl, .inr ⟨H'.next, by omega, by omega, rfl, x2⟩⟩ rfl (by decide) (by omega) hlh (by omega) ?_
        intro v' H3 n3 s3 f3
        try simp (disch := first | omega | (simp only [za1, List.length_replicate] <;> omega)) only [Sall,evalOp,init,binA_s,binE,binI,unE,convE,okNil,builtE,gv,TD.isAgg,resV,↓reduceIte,Nat.reduceEqDiff,reduceCtorEq,Nat.reduceAdd,Nat.reduceMul,Nat.reduceLeDiff,za0,za2,Int.reduceEq,Int.reduceLT,Int.reduceLE,Nat.reduceLT,tiA, h9, h8, h2, w64]
        refine ⟨n - (a + 1), by omega, a + 1, v', lo, H2.next + 1, rfl, by omega, by omega, rfl, ⟨by have := hup.next; omega, fun i hi => ?_⟩, ?_, by omega, by omega, by omega, ?_⟩
        · rw [s3 i (by omega) (by omega), s2 i (by have := hup.next; omega), hup.row i hi]
        · rw [s3 _ (by omega) (by omega), s2 _ (by omega), hr1]
        · rw [zg2 r a hp]; exact f3
      · try simp (disch := first | omega | (simp only [za1, List.length_replicate] <;> omega)) only [Sall,evalOp,init,binA_s,binE,binI,unE,convE,okNil,builtE,gv,TD.isAgg,resV,↓reduceIte,Nat.reduceEqDiff,reduceCtorEq,Nat.reduceAdd,Nat.reduceMul,Nat.reduceLeDiff,za0,za2,Int.reduceEq,Int.reduceLT,Int.reduceLE,Nat.reduceLT,tiA, h9, h8, h5, h2, hr1, ints_get?, hp, decide_false, w64]
        refine ⟨⟨by omega, by omega⟩, n - (a + 1), by omega, a + 1, u, lo, hi, rfl, by omega, by omega, ?_⟩
        rw [zhL r a hp]
        and_intros <;> first | omega | rfl | assumption
    · have ha : a = n := by omega
      subst ha
      try simp (disch := first | omega | (simp only [za1, List.length_replicate] <;> omega)) only [Sall,evalOp,init,binA_s,binE,binI,unE,convE,okNil,builtE,gv,TD.isAgg,resV,↓reduceIte,Nat.reduceEqDiff,reduceCtorEq,Nat.reduceAdd,Nat.reduceMul,Nat.reduceLeDiff,za0,za2,Int.reduceEq,Int.reduceLT,Int.reduceLE,Nat.reduceLT,tiA, h5]
      exact ⟨hup, hfr.wide (by omega) hhi⟩
theorem zfZ (n : Nat) (r : List Int) (hr : r.length = 14) (hn : n ≤ 14) (H : AH) : ACalls Tryz.prog 43 [.int .i64 n, .agg (ints r).toArray] H (fun v H' => Up H.next H H' ∧ Fr2 1 33 2 H.next H'.next H' v (pairsL r n)) := by
  refine za3 [.tmp 4] Tryz.func43 (by kernel_rfl) rfl rfl (Nat.le_of_ble_eq_true rfl) (by kernel_rfl) ?_
  try simp (disch := first | omega | (simp only [za1, List.length_replicate] <;> omega)) only [Sall,evalOp,init,binA_s,binE,binI,unE,convE,okNil,builtE,gv,TD.isAgg,resV,↓reduceIte,Nat.reduceEqDiff,reduceCtorEq,Nat.reduceAdd,Nat.reduceMul,Nat.reduceLeDiff,za0,za2,Int.reduceEq,Int.reduceLT,Int.reduceLE,Nat.reduceLT,tiA, zaV]
  refine za5 (fun m t H' => ∃ (a : Nat) (u : Value) (lo hi : Nat), m = n - a ∧ a ≤ n ∧ t 6 = .int .i64 a ∧ t 0 = .int .i64 n ∧ t 5 = u ∧ t 3 = .pointer (some ⟨H.next, 0, none⟩) ∧ Up H.next H H' ∧ H'.row H.next = some ⟨67, true, ints r⟩ ∧
    H.next < lo ∧ lo ≤ hi ∧ hi ≤ H'.next ∧ Fr2 1 33 2 lo hi H' u (pairsL r a)) n ?_ ?_
  · refine ⟨0, .slice (some ⟨H.next + 1, 0, some 1⟩) 0 0, H.next + 1, H.next + 2, by omega, by omega, ?_⟩
    try simp (disch := first | omega | (simp only [za1, List.length_replicate] <;> omega)) only [Sall,evalOp,init,binA_s,binE,binI,unE,convE,okNil,builtE,gv,TD.isAgg,resV,↓reduceIte,Nat.reduceEqDiff,reduceCtorEq,Nat.reduceAdd,Nat.reduceMul,Nat.reduceLeDiff,za0,za2,Int.reduceEq,Int.reduceLT,Int.reduceLE,Nat.reduceLT,tiA, Int.natCast_zero]
    refine ⟨((Up.refl _ H).push (by omega) _).push (Nat.le_succ _) _, by omega, by omega, ?_⟩
    exact .inr ⟨H.next + 1, [], fun _ => H.next + 2, by omega, by omega, rfl, by rw [AH.push_row, if_pos (by rw [AH.push_next])], rfl, by dsimp only; omega, by dsimp only; omega, .inl (by dsimp only; omega), fun _ => Nat.le_refl _, fun j hj => by simp [zf1] at hj⟩
  · rintro m t H' ⟨a, u, lo, hi, hm, h14, h9, h8, h5, h2, hup, hr1, hlo, hlh, hhi, hfr⟩
    try simp (disch := first | omega | (simp only [za1, List.length_replicate] <;> omega)) only [Sall,evalOp,init,binA_s,binE,binI,unE,convE,okNil,builtE,gv,TD.isAgg,resV,↓reduceIte,Nat.reduceEqDiff,reduceCtorEq,Nat.reduceAdd,Nat.reduceMul,Nat.reduceLeDiff,za0,za2,Int.reduceEq,Int.reduceLT,Int.reduceLE,Nat.reduceLT,tiA, h9, h8]
    refine za4 (fun h => ?_) (fun h => ?_)
    · by_cases hp : (a : Int) < r.getD a 0
      · have hle := zhQ r a
        have ne1 : ¬ H.next = H'.next := by omega
        try simp (disch := first | omega | (simp only [za1, List.length_replicate] <;> omega)) only [Sall,evalOp,init,binA_s,binE,binI,unE,convE,okNil,builtE,gv,TD.isAgg,resV,↓reduceIte,Nat.reduceEqDiff,reduceCtorEq,Nat.reduceAdd,Nat.reduceMul,Nat.reduceLeDiff,za0,za2,Int.reduceEq,Int.reduceLT,Int.reduceLE,Nat.reduceLT,tiA, h9, h8, h5, h2, hr1, ints_get?, hp, decide_true, zbT, zhD, zaL, ne1]
        refine ⟨⟨by omega, by omega⟩, ⟨by omega, by omega⟩, ?_⟩
        obtain ⟨H2, e2⟩ : ∃ H2, H2 = (H'.push ⟨2, true, [.int .i64 a, .int .i64 (r.getD a 0)]⟩).push ⟨33, true, [.slice (some ⟨H'.next, 0, some 1⟩) 2 2]⟩ := ⟨_, rfl⟩
        have n2 : H2.next = H'.next + 2 := by rw [e2]; rfl
        have s2 : ∀ i, i < H'.next → H2.row i = H'.row i := fun i hi => by rw [e2, AH.push_row, if_neg (by rw [AH.push_next]; omega), AH.push_row, if_neg (by omega)]
        have x2 : H2.row H'.next = some ⟨2, true, ints [(a : Int), r.getD a 0]⟩ := by rw [e2, AH.push_row, if_neg (by rw [AH.push_next]; omega), AH.push_row, if_pos rfl]; rfl
        rw [← e2]
        clear e2
        refine zgW (hfr.same fun i _ hi => s2 i (by omega)) (m := 2) (l := [(a : Int), r.getD a 0]) ⟨rfl, .inr ⟨H'.next, by omega, by omega, rfl, x2⟩⟩ rfl (by decide) (by omega) hlh (by omega) ?_
        intro v' H3 n3 s3 f3
        try simp (disch := first | omega | (simp only [za1, List.length_replicate] <;> omega)) only [Sall,evalOp,init,binA_s,binE,binI,unE,convE,okNil,builtE,gv,TD.isAgg,resV,↓reduceIte,Nat.reduceEqDiff,reduceCtorEq,Nat.reduceAdd,Nat.reduceMul,Nat.reduceLeDiff,za0,za2,Int.reduceEq,Int.reduceLT,Int.reduceLE,Nat.reduceLT,tiA, h9, h8, h2, w64]
        refine ⟨n - (a + 1), by omega, a + 1, v', lo, H2.next + 1, rfl, by omega, by omega, rfl, ⟨by have := hup.next; omega, fun i hi => ?_⟩, ?_, by omega, by omega, by omega, ?_⟩
        · rw [s3 i (by omega) (by omega), s2 i (by have := hup.next; omega), hup.row i hi]
        · rw [s3 _ (by omega) (by omega), s2 _ (by omega), hr1]
        · rw [zg2 r a hp]; exact f3
      · try simp (disch := first | omega | (simp only [za1, List.length_replicate] <;> omega)) only [Sall,evalOp,init,binA_s,binE,binI,unE,convE,okNil,builtE,gv,TD.isAgg,resV,↓reduceIte,Nat.reduceEqDiff,reduceCtorEq,Nat.reduceAdd,Nat.reduceMul,Nat.reduceLeDiff,za0,za2,Int.reduceEq,Int.reduceLT,Int.reduceLE,Nat.reduceLT,tiA, h9, h8, h5, h2, hr1, ints_get?, hp, decide_false, w64]
        refine ⟨⟨by omega, by omega⟩, n - (a + 1), by omega, a + 1, u, lo, hi, rfl, by omega, by omega, ?_⟩
        rw [zhL r a hp]
        and_intros <;> first | omega | rfl | assumption
    · have ha : a = n := by omega
      subst ha
      try simp (disch := first | omega | (simp only [za1, List.length_replicate] <;> omega)) only [Sall,evalOp,init,binA_s,binE,binI,unE,convE,okNil,builtE,gv,TD.isAgg,resV,↓reduceIte,Nat.reduceEqDiff,reduceCtorEq,Nat.reduceAdd,Nat.reduceMul,Nat.reduceLeDiff,za0,za2,Int.reduceEq,Int.reduceLT,Int.reduceLE,Nat.reduceLT,tiA, h5]
      exact ⟨hup, hfr.wide (by omega) hhi⟩
end Go.Proofs.YtemgclojolmhbaaGreat.A
end

section
set_option maxRecDepth 100000
namespace Go.Proofs.YtemgclojolmhbaaGreat.A
open Go Go.Abs Go.RowKit
end Go.Proofs.YtemgclojolmhbaaGreat.A
end

section
namespace Go.Abs
open Go Go.RowKit
theorem sl_at {z n : Nat} {ty : TypeId} {v : Value} {vs : List Value} {H H' : AH} {S S' : Nat → Prop} (h : (Th.sl z ty v n vs).p H S) (hS : ∀ i, S i → S' i) (hr : ∀ i r, S i → H.row i = some r → H'.row i = some r) : (Th.sl z ty v n vs).p H' S' :=
  (Th.sl z ty v n vs).loc H H' S S' hS hr h
theorem Ow.get2 {α : Type} {f : α → Value} {B H : AH} {L : List Th} (h : Ow B H L) (k : Nat) {ty ty' : TypeId} {v : Value} {ll : List (List α)} (hk : L[k]? = some (.sl2 f ty ty' v ll)) {j : Nat} (hj : j < ll.length) :
    ∃ i vs x, B.next ≤ i ∧ i < H.next ∧ v = .slice (some ⟨i, 0, some 1⟩) ll.length ll.length ∧ H.row i = some ⟨ty, true, vs⟩ ∧ vs.length = ll.length ∧ vs[j]? = some x ∧ x.oneCell' = true ∧
      (0 < (ll.getD j []).length → ∃ q, B.next ≤ q ∧ q < H.next ∧ q ≠ i ∧ x = .slice (some ⟨q, 0, some 1⟩) (ll.getD j []).length (ll.getD j []).length ∧ H.row q = some ⟨ty', true, (ll.getD j []).map f⟩) := by
  obtain ⟨S, hS, hp⟩ := h.at hk
  rcases hp with ⟨rfl, _⟩ | ⟨i, vs, o, h1, h2, h3, h4, h5, h6⟩
  · simp at hj
  · obtain ⟨x, hx, hq⟩ := h6 j hj
    refine ⟨i, vs, x, (hS i h1).1, (hS i h1).2, h3, h4, h5, hx, ?_, fun hl => ?_⟩
    · rcases hq.2 with ⟨_, rfl⟩ | ⟨_, _, rfl, _⟩ <;> rfl
    · rcases hq.2 with ⟨h0, _⟩ | ⟨q, q1, q2, q3⟩
      · omega
      · exact ⟨q, (hS q q1.1).1, (hS q q1.1).2, fun e => by rw [e] at q1; omega, q2, q3⟩
theorem Ow.set2 {α : Type} {f : α → Value} {B H : AH} {L : List Th} (h : Ow B H L) (k : Nat) {ty ty' : TypeId} {i q n c m : Nat} {ll : List (List α)} {vs : List Value} (hk : L[k]? = some (.sl2 f ty ty' (.slice (some ⟨i, 0, some 1⟩) n c) ll)) {j : Nat} (hj : j < ll.length) {l' : List α} (hl : l'.length = (ll.getD j []).length)
    (hr : H.row i = some ⟨ty, true, vs⟩) (hx : vs[j]? = some (.slice (some ⟨q, 0, some 1⟩) m m)) :
    Ow B (H.setCells q (l'.map f)) (L.set k (.sl2 f ty ty' (.slice (some ⟨i, 0, some 1⟩) n c) (ll.set j l'))) := by
  refine h.upd hk (Nat.le_refl _) (h.sc.set _ _) fun S hS hp => ?_
  rcases hp with ⟨rfl, _⟩ | ⟨i', vs', o, h1, h2, h3, h4, h5, h6⟩
  · simp at hj
  simp only [Value.slice.injEq, Option.some.injEq, Addr.mk.injEq] at h3
  obtain ⟨⟨rfl, _, _⟩, rfl, rfl⟩ := h3
  rw [hr] at h4
  simp only [Option.some.injEq, Row.mk.injEq, true_and] at h4
  subst h4
  obtain ⟨x, hx', hq⟩ := h6 j hj
  rw [hx] at hx'
  cases hx'
  have hqS := sl_mem _ hq
  have hqi : q ≠ i := fun e => by rw [e] at hqS; omega
  refine ⟨fun z hz hzS => by rw [AH.setCells_row, if_neg (fun e => hzS (by rw [e]; exact hqS.1))], fun S' hS' _ => .inr ⟨i, vs, o, hS' i h1, h2, by rw [List.length_set], by rw [AH.setCells_row, if_neg (Ne.symm hqi)]; exact hr, by rw [List.length_set]; exact h5, fun z hz => ?_⟩⟩
  rw [List.length_set] at hz
  by_cases e : z = j
  · subst e
    have e1 : (ll.set z l').getD z [] = l' := by simp [List.getD_eq_getElem?_getD, hz]
    rw [e1]
    refine ⟨_, hx, ?_⟩
    rcases hq.2 with ⟨h0, h7⟩ | ⟨q', q1, q2, q3⟩
    · cases h7
    · cases q2
      rw [hl]
      refine ⟨by simp [hl], .inr ⟨q, ⟨hS' q q1.1, q1.2⟩, rfl, by rw [AH.setCells_row, if_pos rfl, q3]; rfl⟩⟩
  · have e1 : (ll.set j l').getD z [] = ll.getD z [] := by simp [List.getD_eq_getElem?_getD, List.getElem?_set, Ne.symm e]
    rw [e1]
    obtain ⟨y, hy, hz2⟩ := h6 z hz
    refine ⟨y, hy, sl_at hz2 (fun w hw => ⟨hS' w hw.1, hw.2⟩) fun w r hw hwr => ?_⟩
    rw [AH.setCells_row, if_neg (fun e2 => by rw [e2] at hw; omega)]
    exact hwr
def Th.both (p q : Th) : Th where
  p := fun H S => ∃ o : Nat → Bool, p.p H (fun i => S i ∧ o i = true) ∧ q.p H (fun i => S i ∧ o i = false)
  loc := fun H H' S S' hS hr ⟨o, h1, h2⟩ => ⟨o, p.loc H H' _ _ (fun i hi => ⟨hS i hi.1, hi.2⟩) (fun i r hi => hr i r hi.1) h1, q.loc H H' _ _ (fun i hi => ⟨hS i hi.1, hi.2⟩) (fun i r hi => hr i r hi.1) h2⟩
theorem Ow.merge {B H : AH} {L : List Th} (h : Ow B H L) (k m : Nat) {p q : Th} (hk : L[k]? = some p) (hm : L[m]? = some q) (hkm : k ≠ m) : Ow B H ((L.set k (p.both q)).set m .no) := by
  obtain ⟨o, ho⟩ := h.own
  refine ⟨h.sc, h.next, h.low, fun i => if o i = m then k else o i, fun j r hj => ?_⟩
  have hm' : (L.set k (p.both q))[m]? = some q := by rw [List.getElem?_set, if_neg hkm]; exact hm
  rcases set_get hm' hj with ⟨rfl, rfl⟩ | ⟨hjm, hj⟩
  · trivial
  · rcases set_get hk hj with ⟨rfl, rfl⟩ | ⟨hjk, hj⟩
    · refine ⟨fun i => decide (o i = j), p.loc H H _ _ (fun i hi => ⟨⟨hi.1, hi.2.1, ?_⟩, decide_eq_true hi.2.2⟩) (fun i r _ hr => hr) (ho j p hk), q.loc H H _ _ (fun i hi => ⟨⟨hi.1, hi.2.1, ?_⟩, decide_eq_false fun e => hjm (e.symm.trans hi.2.2)⟩) (fun i r _ hr => hr) (ho m q hm)⟩
      · show (if o i = m then j else o i) = j
        split
        · rfl
        · exact hi.2.2
      · show (if o i = m then j else o i) = j
        rw [if_pos hi.2.2]
    · refine r.loc H H _ _ (fun i hi => ⟨hi.1, hi.2.1, ?_⟩) (fun i r _ hr => hr) (ho j r hj)
      show (if o i = m then k else o i) = j
      rw [if_neg (fun e => hjm (hi.2.2.symm.trans e))]
      exact hi.2.2
theorem Ow.app2 {α : Type} {f : α → Value} {P : Program} {E : TI} {n : Nat} {ty ty' : TypeId} {B H : AH} {L : List Th} {v x : Value} {ll : List (List α)} {l : List α} {K : Value → AH → Prop} (h : Ow B H L) (k m : Nat) (hk : L[k]? = some (.sl2 f ty ty' v ll)) (hm : L[m]? = some (.sl 1 ty' x n (l.map f))) (hkm : k ≠ m) (hz : E.size = 1) (hb : E.bytes ≤ 32768) (hn : ll.length + 1 ≤ 4294967296)
    (hK : ∀ v' H', H'.next = H.next + 1 → Ow B H' ((L.set k (.sl2 f ty ty' v' (ll ++ [l]))).set m .no) → K v' H') : runOut P H (appE E ty v [x] 1 H) K := by
  have hln : n = l.length := by have := h.len m hm; simp at this; omega
  subst hln
  have hM := h.merge k m hk hm hkm
  have hkl := (List.getElem?_eq_some_iff.1 hk).1
  have hk' : ((L.set k ((Th.sl2 f ty ty' v ll).both (.sl 1 ty' x l.length (l.map f)))).set m .no)[k]? = some ((Th.sl2 f ty ty' v ll).both (.sl 1 ty' x l.length (l.map f))) := by
    rw [List.getElem?_set, if_neg (Ne.symm hkm), List.getElem?_set, if_pos rfl, if_pos hkl]
  have eL : ∀ v', ((L.set k ((Th.sl2 f ty ty' v ll).both (.sl 1 ty' x l.length (l.map f)))).set m .no).set k (.sl2 f ty ty' v' (ll ++ [l])) = (L.set k (.sl2 f ty ty' v' (ll ++ [l]))).set m .no := fun v' => by
    rw [List.set_comm _ _ (Ne.symm hkm), List.set_set]
  obtain ⟨S, hS, hp⟩ := h.at hk
  have lst : (ll ++ [l]).getD ll.length [] = l := by simp [List.getD_eq_getElem?_getD]
  have lld : ∀ j, j < ll.length → (ll ++ [l]).getD j [] = ll.getD j [] := fun j hj => by simp [List.getD_eq_getElem?_getD, List.getElem?_append_left hj]
  unfold appE
  rw [if_neg (by omega)]
  rcases hp with ⟨hll, rfl⟩ | ⟨i, vs, o, h1, h2, rfl, hr, h5, h6⟩
  · simp only [zc5, zaE, zaQ, hz]
    refine ⟨⟨by omega, hb⟩, hK _ _ rfl ?_⟩
    rw [← eL]
    refine hM.upd hk' (Nat.le_succ _) (h.sc.push _) fun S hS hp => ⟨fun j hj _ => by rw [AH.push_row, if_neg (by omega)], fun S' hS' hN => ?_⟩
    obtain ⟨b, _, hq⟩ := hp
    subst hll
    refine .inr ⟨H.next, [x], fun z => if z = H.next then 0 else 1, hN _ (Nat.le_refl _) (Nat.lt_succ_self _), if_pos rfl, rfl, by rw [AH.push_row, if_pos rfl], rfl, fun j hj => ?_⟩
    have hj0 : j = 0 := by simp at hj; omega
    subst hj0
    refine ⟨x, rfl, sl_at hq (fun w hw => ⟨hS' w hw.1, ?_⟩) fun w r hw hwr => by rw [AH.push_row, if_neg (by have := (hS w hw.1).2; omega)]; exact hwr⟩
    show (if w = H.next then 0 else 1) = 1
    rw [if_neg (by have := (hS w hw.1).2; omega)]
  · simp only [zbD, hr, zaZ, zaE, Nat.zero_add, hz, Nat.mul_one]
    refine ⟨⟨hn, hb, by omega, .inl rfl⟩, ?_⟩
    rw [if_neg (by omega)]
    simp only [zaE, zaQ]
    refine ⟨by simp, .inl (hK _ _ rfl ?_)⟩
    rw [← eL]
    refine hM.upd hk' (Nat.le_succ _) ((h.sc.drop i).push _) fun T hT hp => ?_
    obtain ⟨b, hp1, hq⟩ := hp
    rcases hp1 with ⟨_, h7⟩ | ⟨i', vs', u, g1, g2, g3, g4, g5, g6⟩
    · cases h7
    simp only [Value.slice.injEq, Option.some.injEq, Addr.mk.injEq] at g3
    obtain ⟨⟨rfl, _⟩, _⟩ := g3
    rw [hr] at g4
    simp only [Option.some.injEq, Row.mk.injEq, true_and] at g4
    subst g4
    have old : ∀ z, z < H.next → z ≠ i → ((H.drop i).push ⟨ty, true, seg vs 0 ll.length ++ [x]⟩).row z = H.row z := fun z z2 z3 => by
      rw [AH.push_row, if_neg (by rw [AH.drop_next]; omega), AH.drop_row, if_neg z3]
    refine ⟨fun j hj hjT => old j hj (fun e => hjT (by rw [e]; exact g1.1)), fun S' hS' hN => .inr ⟨H.next, vs ++ [x], fun z => if z = H.next then 0 else if b z = false then ll.length + 1 else u z, hN _ (Nat.le_refl _) (Nat.lt_succ_self _), if_pos rfl, by rw [List.length_append]; rfl, ?_, by rw [List.length_append, List.length_append, h5]; rfl, fun j hj => ?_⟩⟩
    · rw [AH.push_row, AH.drop_next, if_pos rfl, zdW _ _ h5.symm]
    · rw [List.length_append, List.length_singleton] at hj
      by_cases c : j < ll.length
      · obtain ⟨y, hy, hz2⟩ := g6 j c
        rw [lld j c]
        refine ⟨y, by rw [List.getElem?_append_left (by omega)]; exact hy, sl_at hz2 (fun w hw => ⟨hS' w hw.1.1, ?_⟩) fun w r hw hwr => ?_⟩
        · show (if w = H.next then 0 else if b w = false then ll.length + 1 else u w) = j + 1
          have := (hT w hw.1.1).2
          rw [if_neg (by omega), if_neg (by rw [hw.1.2]; simp)]; exact hw.2
        · have := (hT w hw.1.1).2
          rw [old w this (fun e => by rw [e] at hw; omega)]; exact hwr
      · have c4 : j = ll.length := by omega
        subst c4
        rw [lst]
        refine ⟨x, by rw [← h5, List.getElem?_append_right (Nat.le_refl _)]; simp, sl_at hq (fun w hw => ⟨hS' w hw.1, ?_⟩) fun w r hw hwr => ?_⟩
        · show (if w = H.next then 0 else if b w = false then ll.length + 1 else u w) = ll.length + 1
          have := (hT w hw.1).2
          rw [if_neg (by omega), if_pos hw.2]
        · have := (hT w hw.1).2
          rw [old w this (fun e => by rw [e] at hw; rw [g1.2] at hw; cases hw.2)]; exact hwr
theorem Ow.pushSl2 {α : Type} (f : α → Value) {B H : AH} {L : List Th} (h : Ow B H L) (ty ty' : TypeId) : Ow B (H.push ⟨ty, true, []⟩) (L ++ [.sl2 f ty ty' (.slice (some ⟨H.next, 0, some 1⟩) 0 0) ([] : List (List α))]) :=
  h.add _ (Nat.le_succ _) (h.sc.push _) (fun i hi => by rw [AH.push_row, if_neg (by omega)]) fun S hS => .inr ⟨H.next, [], fun _ => 0, hS _ (Nat.le_refl _) (Nat.lt_succ_self _), rfl, rfl, by rw [AH.push_row, if_pos rfl], rfl, fun j hj => by simp at hj⟩
theorem Ow.rd2 {B H : AH} {L : List Th} (h : Ow B H L) (k : Nat) {ty ty' : TypeId} {v : Value} {ll : List (List Int)} (hk : L[k]? = some (.sl2 (Value.int .i64) ty ty' v ll)) : Rd2 1 H v ll := by
  obtain ⟨S, hS, hp⟩ := h.at hk
  rcases hp with ⟨h1, h2⟩ | ⟨i, vs, o, h1, h2, rfl, h4, h5, h6⟩
  · exact .inl ⟨h1, none, 0, h2, fun _ => rfl⟩
  · refine .inr ⟨i, 0, some 1, _, _, rfl, h4, fun j hj => ?_⟩
    obtain ⟨x, hx, hq⟩ := h6 j hj
    refine ⟨x, _, by rw [Nat.zero_add]; exact hx, (Fr.rd (ty := ty') (lo := 0) (hi := H.next) ⟨by simp, ?_⟩ : Rd 1 H x (ll.getD j []).length (ll.getD j []))⟩
    rcases hq.2 with h7 | ⟨q, q1, q2, q3⟩
    · exact .inl h7
    · exact .inr ⟨q, Nat.zero_le _, (hS q q1.1).2, q2, q3⟩
theorem Ow.of_fr2 {ty ty' : TypeId} {H H' : AH} {v : Value} {ll : List (List Int)} (up : Up H.next H H') (sc : Sc H') (h : Fr2 1 ty ty' H.next H'.next H' v ll) : Ow H H' [.sl2 (Value.int .i64) ty ty' v ll] := by
  refine ⟨sc, up.next, up.row, fun _ => 0, fun k p hk => ?_⟩
  have hk0 : k = 0 := by
    have := (List.getElem?_eq_some_iff.1 hk).1
    simp at this; omega
  subst hk0
  simp at hk
  subst hk
  rcases h with h | ⟨i, vs, b, h1, h2, rfl, hr, hl, g0, gn, gi, gm, hh⟩
  · exact .inl h
  · classical
    refine .inr ⟨i, vs, fun z => if z = i then 0 else if hz : ∃ j, j < ll.length ∧ b j ≤ z ∧ z < b (j + 1) then Classical.choose hz + 1 else 0, ⟨h1, h2, rfl⟩, if_pos rfl, rfl, hr, hl, fun j hj => ?_⟩
    obtain ⟨x, m, hx, hf⟩ := hh j hj
    have m1 := zaX gm (Nat.zero_le j)
    have m2 := zaX gm (show j + 1 ≤ ll.length from hj)
    have hm := hf.lenK1
    refine ⟨x, hx, ⟨by simp, ?_⟩⟩
    rcases hf.2 with ⟨h3, h4⟩ | ⟨q, q1, q2, q3, q4⟩
    · exact .inl ⟨by omega, h4⟩
    · refine .inr ⟨q, ⟨⟨by omega, by omega, rfl⟩, ?_⟩, by rw [← hm]; exact q3, q4⟩
      show (if q = i then 0 else if hz : ∃ j, j < ll.length ∧ b j ≤ q ∧ q < b (j + 1) then Classical.choose hz + 1 else 0) = j + 1
      have hex : ∃ j, j < ll.length ∧ b j ≤ q ∧ q < b (j + 1) := ⟨j, hj, q1, q2⟩
      rw [if_neg (by rcases gi with g | g <;> omega), dif_pos hex]
      obtain ⟨c1, c2, c3⟩ := Classical.choose_spec hex
      have : Classical.choose hex = j := by
        apply Classical.byContradiction
        intro hne
        rcases Nat.lt_or_gt_of_ne hne with hl | hl
        · have := zaX gm (show Classical.choose hex + 1 ≤ j from hl); omega
        · have := zaX gm (show j + 1 ≤ Classical.choose hex from hl); omega
      rw [this]
theorem Ow.addNo {B H : AH} {L : List Th} (h : Ow B H L) : Ow B H (L ++ [.no]) := h.add _ (Nat.le_refl _) h.sc (fun _ _ => rfl) fun _ _ => trivial
end Go.Abs
end

section
namespace Go.Abs
open Go Go.RowKit
def Th.cap (k : Nat) (ty : TypeId) (v : Value) (n : Nat) (vs : List Value) : Th where
  p := fun H S => vs.length = n * k ∧ ((n = 0 ∧ v = .slice none 0 0) ∨ ∃ i rest, S i ∧ v = .slice (some ⟨i, 0, some k⟩) n n ∧ H.row i = some ⟨ty, true, vs ++ rest⟩)
  loc := fun H H' S S' hS hr h => ⟨h.1, h.2.imp id fun ⟨i, z, h1, h2, h3⟩ => ⟨i, z, hS i h1, h2, hr i _ h1 h3⟩⟩
theorem ze1 {k n : Nat} {ty : TypeId} {v : Value} {vs : List Value} {H : AH} {S : Nat → Prop} (h : (Th.sl k ty v n vs).p H S) : (Th.cap k ty v n vs).p H S :=
  ⟨h.1, h.2.imp id fun ⟨i, h1, h2, h3⟩ => ⟨i, [], h1, h2, by rw [List.append_nil]; exact h3⟩⟩
theorem Ow.tell {B H : AH} {L : List Th} (h : Ow B H L) (k : Nat) {p p' : Th} (hk : L[k]? = some p) (hp : ∀ S, p.p H S → p'.p H S) : Ow B H (L.set k p') :=
  h.upd hk (Nat.le_refl _) h.sc fun S hS q => ⟨fun _ _ _ => rfl, fun S' hS' _ => p'.loc H H _ _ hS' (fun i r _ hr => hr) (hp S q)⟩
theorem Ow.toCap {B H : AH} {L : List Th} (h : Ow B H L) (k : Nat) {z n : Nat} {ty : TypeId} {v : Value} {vs : List Value} (hk : L[k]? = some (.sl z ty v n vs)) : Ow B H (L.set k (.cap z ty v n vs)) :=
  h.tell k hk fun S q => ze1 q
theorem Ow.capLen {B H : AH} {L : List Th} (h : Ow B H L) (k : Nat) {z n : Nat} {ty : TypeId} {v : Value} {vs : List Value} (hk : L[k]? = some (.cap z ty v n vs)) : vs.length = n * z := by
  obtain ⟨S, _, hp⟩ := h.at hk
  exact hp.1
theorem Ow.capOne {B H : AH} {L : List Th} (h : Ow B H L) (k : Nat) {z n : Nat} {ty : TypeId} {v : Value} {vs : List Value} (hk : L[k]? = some (.cap z ty v n vs)) : v.oneCell' = true := by
  obtain ⟨S, _, hp⟩ := h.at hk
  rcases hp.2 with ⟨_, rfl⟩ | ⟨i, _, _, rfl, _⟩ <;> rfl
theorem Ow.capGet {B H : AH} {L : List Th} (h : Ow B H L) (k : Nat) {z n : Nat} {ty : TypeId} {v : Value} {vs : List Value} (hk : L[k]? = some (.cap z ty v n vs)) (hn : 0 < n) :
    ∃ i rest, B.next ≤ i ∧ i < H.next ∧ v = .slice (some ⟨i, 0, some z⟩) n n ∧ H.row i = some ⟨ty, true, vs ++ rest⟩ := by
  obtain ⟨S, hS, hp⟩ := h.at hk
  rcases hp.2 with ⟨h0, _⟩ | ⟨i, rest, h1, h2, h3⟩
  · omega
  · exact ⟨i, rest, (hS i h1).1, (hS i h1).2, h2, h3⟩
theorem cap_rs {z n : Nat} {ty : TypeId} {v : Value} {l : List Int} {H : AH} {S : Nat → Prop} (hp : (Th.cap z ty v n (ints l)).p H S) : Rs z H v n l := by
  have hl := hp.1
  rw [za1] at hl
  rcases hp.2 with ⟨rfl, rfl⟩ | ⟨i, rest, h1, rfl, h3⟩
  · exact ⟨⟨hl, .inl ⟨rfl, none, 0, rfl, fun _ => rfl⟩⟩, .inl rfl⟩
  · refine ⟨⟨hl, .inr ⟨i, 0, some z, n, _, rfl, h3, ?_, ?_⟩⟩, .inr (.inl ⟨i, 0, n, rfl⟩)⟩
    · simp [za1, hl]
    · simp only [seg, List.drop_zero]
      rw [← hl, ← za1 l, List.take_left' rfl]
theorem Ow.capRs {B H : AH} {L : List Th} (h : Ow B H L) (k : Nat) {z n : Nat} {ty : TypeId} {v : Value} {l : List Int} (hk : L[k]? = some (.cap z ty v n (ints l))) : Rs z H v n l := by
  obtain ⟨S, hS, hp⟩ := h.at hk
  exact cap_rs hp
theorem Ow.cut {B H : AH} {L : List Th} (h : Ow B H L) (k : Nat) {z n : Nat} {ty : TypeId} {v : Value} {l : List Int} (hk : L[k]? = some (.cap z ty v n (ints l))) {hi : Option Int} {b : Nat} (hb : hi.getD (n : Int) = (b : Int)) (hbn : b ≤ n) :
    ∃ w, (∀ (P : Program) (E : TI) (K : Value → AH → Prop) (H' : AH), E.size = z → K w H' → runOut P H' (sliceE E v none hi none H') K) ∧ Ow B H (L.set k (.cap z ty w b (ints (l.take (b * z))))) := by
  have hl := h.capLen k hk
  rw [za1] at hl
  have hlb : (l.take (b * z)).length = b * z := by
    rw [List.length_take]
    exact Nat.min_eq_left (by rw [hl]; exact Nat.mul_le_mul_right z hbn)
  obtain ⟨S0, hS0, hp0⟩ := h.at hk
  rcases hp0.2 with ⟨rfl, rfl⟩ | ⟨i, rest, h1, rfl, h3⟩
  · obtain rfl : b = 0 := by omega
    refine ⟨.slice none 0 0, fun P E K H' hE hK => ?_, h.tell k hk fun S q => ⟨by rw [za1, hlb], .inl ⟨rfl, rfl⟩⟩⟩
    unfold sliceE
    rw [if_neg (by simp)]
    simp only [zc5, zaE, zaQ]
    refine ⟨⟨rfl, ?_, rfl⟩, hK⟩
    cases hi with
    | none => rfl
    | some x => simpa using hb
  · refine ⟨.slice (some ⟨i, 0, some z⟩) b b, fun P E K H' hE hK => ?_, h.tell k hk fun S q => ⟨by rw [za1, hlb], ?_⟩⟩
    · unfold sliceE
      rw [if_neg (by simp)]
      have e0 : ((none : Option Int).getD 0) = 0 := rfl
      simp only [zbD, zaE, zaQ, hb, e0, Int.toNat_natCast, hE, Int.toNat_zero, Nat.zero_mul, Nat.add_zero, Nat.sub_zero]
      exact ⟨⟨by omega, by omega, by omega, trivial⟩, hK⟩
    · rcases q.2 with ⟨_, h7⟩ | ⟨i', rest', g1, g2, g3⟩
      · cases h7
      cases g2
      refine .inr ⟨i, ints (l.drop (b * z)) ++ rest', g1, rfl, ?_⟩
      rw [g3, ← List.append_assoc, zaK, List.take_append_drop]
theorem Ow.appC {P : Program} {E : TI} {z n c : Nat} {ty : TypeId} {B H : AH} {L : List Th} {v : Value} {vs ms : List Value} {K : Value → AH → Prop} (h : Ow B H L) (k : Nat) (hk : L[k]? = some (.cap z ty v n vs)) (hz : E.size = z) (hz0 : 0 < z) (hm : ms.length = c * z) (hc : 0 < c) (hb : E.bytes ≤ 32768) (hn : n + c ≤ 4294967296)
    (hK : ∀ v' H', H.next ≤ H'.next → Ow B H' (L.set k (.cap z ty v' (n + c) (vs ++ ms))) → K v' H') : runOut P H (appE E ty v ms c H) K := by
  subst hz
  obtain ⟨S, hS, hp⟩ := h.at hk
  have hl := hp.1
  have hle : (n + c) * E.size = vs.length + ms.length := by rw [hl, hm, Nat.add_mul]
  have hlen' : (vs ++ ms).length = (n + c) * E.size := by rw [List.length_append, hle]
  unfold appE
  rw [if_neg (by omega)]
  rcases hp.2 with ⟨rfl, rfl⟩ | ⟨i, rest, h1, rfl, hr⟩
  · simp only [zc5, zaE, zaQ]
    have hv0 : vs = [] := List.eq_nil_of_length_eq_zero (by omega)
    subst hv0
    refine ⟨⟨by omega, hb⟩, hK _ _ (Nat.le_succ _) (h.upd hk (Nat.le_succ _) (h.sc.push _) fun S hS hp => ⟨fun j hj _ => by rw [AH.push_row, if_neg (by omega)], fun S' _ hN => ⟨hlen', .inr ⟨H.next, [], hN _ (Nat.le_refl _) (Nat.lt_succ_self _), by simp, by rw [AH.push_row, if_pos rfl]; simp⟩⟩⟩)⟩
  · have hseg : seg (vs ++ rest) 0 (n * E.size) = vs := by
      simp only [seg, List.drop_zero]
      rw [← hl, List.take_left' rfl]
    simp only [zbD, hr, zaZ, zaE, Nat.zero_add, hseg]
    refine ⟨⟨by omega, hb, by rw [List.length_append]; omega, .inl rfl⟩, ?_⟩
    split
    · rename_i hfit
      simp only [zaE, zaQ]
      refine ⟨⟨trivial, trivial, hz0, .inr trivial⟩, hK _ _ (Nat.le_refl _) (h.upd hk (Nat.le_refl _) (h.sc.set _ _) fun S hS hp => ?_)⟩
      rcases hp.2 with ⟨_, h7⟩ | ⟨i', rest', g1, g2, g3⟩
      · cases h7
      cases g2
      refine ⟨fun j hj hjS => by rw [AH.setCells_row, if_neg (fun e => hjS (by rw [e]; exact g1))], fun S' hS' _ => ⟨hlen', .inr ⟨i, rest'.drop ms.length, hS' i g1, rfl, ?_⟩⟩⟩
      rw [hr] at g3
      simp only [Option.some.injEq, Row.mk.injEq, true_and] at g3
      rw [AH.setCells_row, if_pos rfl, hr, g3]
      simp only [Option.map_some, Option.some.injEq, Row.mk.injEq, true_and]
      unfold splice
      rw [← hl, List.take_left' rfl, List.append_assoc, List.drop_append, List.drop_eq_nil_of_le (Nat.le_add_right _ _), Nat.add_sub_cancel_left, List.nil_append, List.append_assoc]
    · rename_i hfit
      simp only [zaE, zaQ]
      refine ⟨⟨trivial, trivial, hz0, trivial, trivial⟩, .inl (hK _ _ (Nat.le_succ _) (h.upd hk (Nat.le_succ _) ((h.sc.drop i).push _) fun S hS hp => ?_))⟩
      rcases hp.2 with ⟨_, h7⟩ | ⟨i', rest', g1, g2, g3⟩
      · cases h7
      cases g2
      refine ⟨fun j hj hjS => ?_, fun S' _ hN => ⟨hlen', .inr ⟨H.next, [], hN _ (Nat.le_refl _) (Nat.lt_succ_self _), rfl, ?_⟩⟩⟩
      · rw [AH.push_row, if_neg (by rw [AH.drop_next]; omega), AH.drop_row, if_neg (fun e => hjS (by rw [e]; exact g1))]
      · rw [AH.push_row, AH.drop_next, if_pos rfl, List.append_nil]
theorem Ow.capPut {B H : AH} {L : List Th} (h : Ow B H L) (k : Nat) {z n i m c o : Nat} {u : Option Nat} {ty : TypeId} {vs vs' rest : List Value} (hk : L[k]? = some (.cap z ty (.slice (some ⟨i, o, u⟩) m c) n vs)) (hr : H.row i = some ⟨ty, true, vs ++ rest⟩) (hl : vs'.length = vs.length) :
    Ow B (H.setCells i (vs' ++ rest)) (L.set k (.cap z ty (.slice (some ⟨i, o, u⟩) m c) n vs')) := by
  refine h.upd hk (Nat.le_refl _) (h.sc.set _ _) fun S hS hp => ?_
  rcases hp.2 with ⟨_, h1⟩ | ⟨i', rest', h1, h2, h3⟩
  · cases h1
  · cases h2
    exact ⟨fun j hj hjS => by rw [AH.setCells_row, if_neg (fun e => hjS (by rw [e]; exact h1))], fun S' hS' _ => ⟨by rw [hl]; exact hp.1, .inr ⟨i, rest, hS' i h1, rfl, by rw [AH.setCells_row, if_pos rfl, hr]; rfl⟩⟩⟩
theorem Ow.appR {P : Program} {E : TI} {z n c : Nat} {ty : TypeId} {B H : AH} {L : List Th} {w v : Value} {vs : List Value} {l : List Int} {K : Value → AH → Prop} (h : Ow B H L) (k : Nat) (hk : L[k]? = some (.cap z ty w n vs)) (hv : Rd z H v c l) (hrow : ∀ i o u n c, v = .slice (some ⟨i, o, u⟩) n c → ∃ r, H.row i = some r ∧ o ≤ r.cells.length) (hz : E.size = z) (hz0 : 0 < z) (hb : E.bytes ≤ 32768) (hn : n + c ≤ 4294967296)
    (hK : ∀ v' H', H.next ≤ H'.next → Ow B H' (L.set k (.cap z ty v' (n + c) (vs ++ ints l))) → K v' H') : runOut P H (zaL H z v fun xs m => appE E ty w xs m H) K := by
  have hl := hv.1
  have hkl := (List.getElem?_eq_some_iff.1 hk).1
  rcases Nat.eq_zero_or_pos c with rfl | hc
  · have hl0 : l = [] := List.eq_nil_of_length_eq_zero (by omega)
    subst hl0
    have eL : L.set k (.cap z ty w (n + 0) (vs ++ ints [])) = L := by
      have e : Th.cap z ty w (n + 0) (vs ++ ints []) = Th.cap z ty w n vs := by
        show Th.cap z ty w n (vs ++ []) = _
        rw [List.append_nil]
      rw [e]
      apply List.ext_getElem?
      intro j
      rw [List.getElem?_set]
      split
      · rename_i e; subst e; exact hk.symm
      · rfl
    have key : runOut P H (appE E ty w [] 0 H) K := by
      unfold appE
      rw [if_pos rfl]
      obtain ⟨S, hS, hp⟩ := h.at hk
      have hK' := hK w H (Nat.le_refl _) (by rw [eL]; exact h)
      rcases hp.2 with ⟨_, rfl⟩ | ⟨i, rest, h1, rfl, hr⟩
      · simp only [zc5, zaQ]; exact hK'
      · simp only [zbD, zaE, zaQ]; exact ⟨(fun h => by cases h), hK'⟩
    rcases hv.2 with ⟨_, a, c, rfl, ha⟩ | ⟨i, o, u, c, r, rfl, hr, h3, h4⟩
    · cases a with
      | none =>
        unfold zaL
        have hc0 : c = 0 := ha rfl
        subst hc0
        simp only [zc5]
        exact key
      | some a =>
        obtain ⟨i, o, u⟩ := a
        obtain ⟨r, hr, ho⟩ := hrow i o u 0 c rfl
        unfold zaL
        simp only [zbD, hr, zaZ, zaE, Nat.zero_mul, Nat.add_zero]
        have e0 : seg r.cells o 0 = [] := by simp [seg]
        rw [e0]
        exact ⟨⟨ho, .inr (by simp)⟩, key⟩
    · unfold zaL
      simp only [zbD, hr, zaZ, zaE, Nat.zero_mul, Nat.add_zero]
      have e0 : seg r.cells o 0 = [] := by simp [seg]
      rw [e0]
      exact ⟨⟨by omega, .inr (by simp)⟩, key⟩
  · obtain ⟨i, o, u, cc, r, rfl, hr, h3, _, h5⟩ := hv.get hc
    unfold zaL
    have hsg : seg r.cells o (c * z) = ints l := by
      have := h5 0 (c * z) (by omega)
      rw [Nat.add_zero] at this
      rw [this, List.drop_zero, List.take_of_length_le (by omega)]
    simp only [zbD, hr, zaZ, zaE, hsg]
    refine ⟨⟨h3, ?_⟩, h.appC k hk hz hz0 (by rw [za1, hl]) hc hb hn hK⟩
    have := ok_ints (r := r) l
    simpa using this
theorem Ow.alone {B H : AH} {L : List Th} (h : Ow B H L) : ∃ B' H3, Ow B' H3 L ∧ ∀ i r, H3.row i = some r → B.next ≤ i ∧ H.row i = some r := by
  have hn := h.next
  obtain ⟨w, hw⟩ := h.own
  refine ⟨⟨B.next, fun _ => none⟩, ⟨H.next, fun i => if B.next ≤ i ∧ i < H.next then H.row i else none⟩, ⟨fun i r hr => ?_, hn, fun i hi => ?_, w, fun k p hk => ?_⟩, fun i r hr => ?_⟩
  · dsimp only at hr ⊢
    split at hr
    · rename_i h1; exact h1.2
    · cases hr
  · dsimp only at hi ⊢
    rw [if_neg (by omega)]
  · refine p.loc H _ _ _ (fun j hj => hj) (fun j r hj hr => ?_) (hw k p hk)
    show (if B.next ≤ j ∧ j < H.next then H.row j else none) = some r
    rw [if_pos ⟨hj.1, hj.2.1⟩]; exact hr
  · dsimp only at hr
    split at hr
    · rename_i h1; exact ⟨h1.1, hr⟩
    · cases hr
end Go.Abs
end

section
namespace Go.Abs
open Go Go.RowKit
theorem Ow.only {B H : AH} {L : List Th} (h : Ow B H L) (k : Nat) {p : Th} (hk : L[k]? = some p) : Ow B H [p] :=
  h.sub (fun _ => k) (fun j hj => by
    have hj : j < 1 := hj
    obtain rfl : j = 0 := by omega
    exact hk) fun i j hi hj _ => by
    have hi : i < 1 := hi
    have hj : j < 1 := hj
    omega
theorem Ow.pick3 {B H : AH} {L : List Th} (h : Ow B H L) (i j k : Nat) {p q r : Th} (hi : L[i]? = some p) (hj : L[j]? = some q) (hk : L[k]? = some r) (hij : i ≠ j) (hik : i ≠ k) (hjk : j ≠ k) : Ow B H [p, q, r] :=
  h.sub (fun x => if x = 0 then i else if x = 1 then j else k) (fun x hx => by
    have hx : x < 3 := hx
    rcases x with _ | _ | _ | x
    · exact hi
    · exact hj
    · exact hk
    · omega) fun x y hx hy e => by
    have hx : x < 3 := hx
    have hy : y < 3 := hy
    have e : (if x = 0 then i else if x = 1 then j else k) = (if y = 0 then i else if y = 1 then j else k) := e
    repeat' split at e
    all_goals omega
theorem Ow.pick2 {B H : AH} {L : List Th} (h : Ow B H L) (i j : Nat) {p q : Th} (hi : L[i]? = some p) (hj : L[j]? = some q) (hij : i ≠ j) : Ow B H [p, q] :=
  h.sub (fun x => if x = 0 then i else j) (fun x hx => by
    have hx : x < 2 := hx
    rcases x with _ | _ | x
    · exact hi
    · exact hj
    · omega) fun x y hx hy e => by
    have hx : x < 2 := hx
    have hy : y < 2 := hy
    have e : (if x = 0 then i else j) = (if y = 0 then i else j) := e
    repeat' split at e
    all_goals omega
def Th.see (Q : AH → Prop) : Th where
  p := fun H S => ∀ H' : AH, (∀ (i : Nat) (r : Row), S i → H.row i = some r → H'.row i = some r) → Q H'
  loc := fun H H' S S' hS hr h H2 h2 => h H2 fun i r hi hr' => h2 i r (hS i hi) (hr i r hi hr')
theorem see_of {p : Th} {Q : AH → Prop} (hQ : ∀ H S, p.p H S → Q H) {H : AH} {S : Nat → Prop} (h : p.p H S) : (Th.see Q).p H S :=
  fun H' hh => hQ H' S (p.loc H H' S S (fun _ h => h) hh h)
theorem Ow.toSee {B H : AH} {L : List Th} (h : Ow B H L) (k : Nat) {p : Th} (hk : L[k]? = some p) {Q : AH → Prop} (hQ : ∀ H S, p.p H S → Q H) : Ow B H (L.set k (.see Q)) :=
  h.tell k hk fun S hp => see_of hQ hp
theorem Ow.sees {B H : AH} {L : List Th} (h : Ow B H L) (k : Nat) {Q : AH → Prop} (hk : L[k]? = some (.see Q)) : Q H := by
  obtain ⟨S, _, hp⟩ := h.at hk
  exact hp H fun _ _ _ h => h
theorem zf0 {ty ty' : TypeId} {v : Value} {ll : List (List Int)} {H : AH} {S : Nat → Prop} (hp : (Th.sl2 (Value.int .i64) ty ty' v ll).p H S) : Rd2 1 H v ll := by
  rcases hp with ⟨h1, h2⟩ | ⟨i, vs, o, h1, h2, h3, h4, h5, h6⟩
  · exact .inl ⟨h1, none, 0, h2, fun _ => rfl⟩
  · refine .inr ⟨i, 0, some 1, _, _, h3, h4, fun j hj => ?_⟩
    obtain ⟨x, hx, hq⟩ := h6 j hj
    have hf : (Th.sl 1 ty' x (ll.getD j []).length (ints (ll.getD j []))).p H (fun z => S z ∧ o z = j + 1) := hq
    exact ⟨x, _, by simpa using hx, (cap_rs (ze1 hf)).rd⟩
def RowsOk (vs : List Value) (ll : List (List Int)) (H : AH) : Prop := vs.length = ll.length ∧ ∀ j, j < ll.length → ∃ x, vs[j]? = some x ∧ Rd 1 H x (ll.getD j []).length (ll.getD j [])
theorem RowsOk.nil (H : AH) : RowsOk [] [] H := ⟨rfl, fun j h => by simp at h⟩
theorem RowsOk.app {vs ws : List Value} {ll mm : List (List Int)} {H : AH} (h : RowsOk vs ll H) (k : RowsOk ws mm H) : RowsOk (vs ++ ws) (ll ++ mm) H := by
  refine ⟨by simp [h.1, k.1], fun j hj => ?_⟩
  rw [List.length_append] at hj
  by_cases e : j < ll.length
  · obtain ⟨y, h1, h2⟩ := h.2 j e
    have e2 : (ll ++ mm).getD j [] = ll.getD j [] := by rw [List.getD_eq_getElem?_getD, List.getD_eq_getElem?_getD, List.getElem?_append_left e]
    rw [e2]
    exact ⟨y, by rw [List.getElem?_append_left (by rw [h.1]; exact e)]; exact h1, h2⟩
  · obtain ⟨y, h1, h2⟩ := k.2 (j - ll.length) (by omega)
    have e2 : (ll ++ mm).getD j [] = mm.getD (j - ll.length) [] := by rw [List.getD_eq_getElem?_getD, List.getD_eq_getElem?_getD, List.getElem?_append_right (by omega)]
    rw [e2]
    exact ⟨y, by rw [List.getElem?_append_right (by rw [h.1]; omega), h.1]; exact h1, h2⟩
theorem RowsOk.rd2 {ty : TypeId} {vs : List Value} {ll : List (List Int)} {H : AH} {S : Nat → Prop} {u : Value} {m : Nat} (h : RowsOk vs ll H) (hp : (Th.sl 1 ty u m vs).p H S) : Rd2 1 H u ll := by
  have hm : m = ll.length := by have := hp.1; have := h.1; omega
  rcases hp.2 with ⟨h0, h1⟩ | ⟨i, _, h1, h2⟩
  · exact .inl ⟨List.eq_nil_of_length_eq_zero (by omega), none, 0, h1, fun _ => rfl⟩
  · refine .inr ⟨i, 0, some 1, _, _, by rw [h1, hm], h2, fun j hj => ?_⟩
    obtain ⟨x, hx, hr⟩ := h.2 j hj
    exact ⟨x, _, by simpa using hx, hr⟩
def Rw (u : Value) (ws : List Value) (ll : List (List Int)) (H : AH) : Prop :=
  RowsOk ws ll H ∧ ((u = .slice none 0 0 ∧ ws = []) ∨ ∃ i o s c r, u = .slice (some ⟨i, o, s⟩) ws.length c ∧ H.row i = some r ∧ o + ws.length ≤ r.cells.length ∧ seg r.cells o ws.length = ws)
theorem Rw.rd2 {u : Value} {ws : List Value} {ll : List (List Int)} {H : AH} (h : Rw u ws ll H) : Rd2 1 H u ll := by
  obtain ⟨h1, h2⟩ := h
  rcases h2 with ⟨e1, e2⟩ | ⟨i, o, s, c, r, e1, h3, h4, h5⟩
  · exact .inl ⟨List.eq_nil_of_length_eq_zero (by rw [← h1.1, e2]; rfl), none, 0, e1, fun _ => rfl⟩
  · refine .inr ⟨i, o, s, c, r, by rw [e1, h1.1], h3, fun j hj => ?_⟩
    obtain ⟨x, hx, hr⟩ := h1.2 j hj
    refine ⟨x, _, ?_, hr⟩
    rw [← h5] at hx
    simp only [seg, List.getElem?_take, List.getElem?_drop] at hx
    rw [if_pos (by rw [h1.1]; exact hj)] at hx
    exact hx
end Go.Abs
end

section
namespace Go.Abs
def wonI (v : Int) : Int := if v = 1 then 2 else if v = 2 then 0 else 1
abbrev Ev := Nat × Int × Int × Int
def evPair (i : Nat) (p : List Int) (o : Int) : List Ev := [(i, p.getD 0 0, p.getD 1 0, o), (i, p.getD 1 0, p.getD 0 0, 2 - o)]
def evRound (n i : Nat) (r x : List Int) (k : Nat) : List Ev := (List.range k).flatMap fun j => evPair i ((pairsL r n).getD j []) (wonI (x.getD j 0))
def meets (n : Nat) (l : List Int) (ll : List (List Int)) (m : Nat) : List Ev := (List.range m).flatMap fun i => evRound n i (rnd l i) (ll.getD i []) (pairsL (rnd l i) n).length
theorem pairsL_get (r : List Int) (n k : Nat) (h : k < (pairsL r n).length) : ∃ a : Nat, a < n ∧ (a : Int) < r.getD a 0 ∧ (pairsL r n).getD k [] = [(a : Int), r.getD a 0] := by
  unfold pairsL at h ⊢
  rw [List.length_map] at h
  have e : (List.map (fun (a : Nat) => [(a : Int), r.getD a 0]) ((List.range n).filter fun (a : Nat) => decide ((a : Int) < r.getD a 0))).getD k [] = [((((List.range n).filter fun (a : Nat) => decide ((a : Int) < r.getD a 0))[k] : Nat) : Int), r.getD (((List.range n).filter fun (a : Nat) => decide ((a : Int) < r.getD a 0))[k]) 0] := by
    rw [List.getD_eq_getElem?_getD, List.getElem?_map, List.getElem?_eq_getElem h]; rfl
  have hm := List.getElem_mem h
  generalize ((List.range n).filter fun (a : Nat) => decide ((a : Int) < r.getD a 0))[k] = a at e hm
  obtain ⟨h1, h2⟩ := List.mem_filter.1 hm
  exact ⟨a, by simpa using h1, of_decide_eq_true h2, e⟩
theorem zbR {n : Int} {r : List Int} (h : roundB n r = true) {a : Nat} (ha : (a : Int) < n) : (2 ≤ n ∧ n ≤ 14) ∧ 0 ≤ r.getD a 0 ∧ r.getD a 0 < n ∧ r.getD (r.getD a 0).toNat 0 = a := by
  unfold roundB at h
  rw [Bool.and_eq_true] at h
  have h1 := of_decide_eq_true h.1
  have h2 := (List.all_eq_true.1 h.2) a (by simp; omega)
  unfold okAt at h2
  rw [if_neg (by omega), Bool.and_eq_true] at h2
  have h3 := of_decide_eq_true h2.1
  exact ⟨h1, h3.1, by omega, by simpa using h2.2⟩
theorem zaT {n : Int} {k : Nat} {l : List Int} (h : schedB n k l = true) : (2 ≤ n ∧ n ≤ 14) ∧ k ≤ 40 ∧ ∀ i, i < k → roundB n (rnd l i) = true := by
  unfold schedB at h
  rw [Bool.and_eq_true, Bool.and_eq_true] at h
  exact ⟨of_decide_eq_true h.1.1, of_decide_eq_true h.1.2, fun i hi => (List.all_eq_true.1 h.2) i (by simpa using hi)⟩
def addAt (l : List Int) (a z : Int) : List Int := l.set a.toNat (IntKind.i64.wrap (l.getD a.toNat 0 + z))
end Go.Abs
end

section
namespace Go.Abs
def zeroM (n : Nat) : List (List Int) := List.replicate n (List.replicate n 0)
def incR (row : List Int) (b : Int) : List Int := row.set b.toNat (IntKind.i64.wrap (row.getD b.toNat 0 + 1))
theorem zf7 (row : List Int) (b : Int) : (incR row b).length = row.length := by simp [incR]
def incM (M : List (List Int)) (a b : Int) : List (List Int) := M.set a.toNat (incR (M.getD a.toNat []) b)
def SqM (n : Nat) (M : List (List Int)) : Prop := M.length = n ∧ ∀ j, j < n → (M.getD j []).length = n
theorem zeroM_sq (n : Nat) : SqM n (zeroM n) := ⟨by simp [zeroM], fun j hj => by simp [zeroM, List.getD_eq_getElem?_getD, List.getElem?_replicate, hj]⟩
theorem SqM.mem {n : Nat} {M : List (List Int)} (h : SqM n M) : ∀ y ∈ M, y.length = n := by
  intro y hy
  obtain ⟨j, hj, rfl⟩ := List.mem_iff_getElem.1 hy
  have := h.2 j (by rw [← h.1]; exact hj)
  rw [List.getD_eq_getElem?_getD, List.getElem?_eq_getElem hj] at this
  exact this
theorem SqM.tot {n : Nat} {M : List (List Int)} (h : SqM n M) : Abs.tot M = n * n := by
  have h1 := h.1
  have h2 := h.mem
  clear h
  have : ∀ (M : List (List Int)), (∀ y ∈ M, y.length = n) → Abs.tot M = M.length * n := by
    intro M
    induction M with
    | nil => intro _; simp [Abs.tot]
    | cons x M ih =>
      intro h
      have e : Abs.tot (x :: M) = x.length + Abs.tot M := by simp [Abs.tot]
      rw [e, ih fun y hy => h y (List.mem_cons_of_mem _ hy), h x List.mem_cons_self, List.length_cons, Nat.succ_mul, Nat.add_comm]
  rw [this M h2, h1]
theorem foldl_range_succ {α : Type} (f : α → Nat → α) (s : α) (n : Nat) : (List.range (n + 1)).foldl f s = f ((List.range n).foldl f s) n := by
  rw [List.range_succ, List.foldl_append]; rfl
/-! How often teams meet. -/
def zeW (l : List Int) (a : Nat) (row : List Int) (i : Nat) : List Int := if (rnd l i).getD a 0 = a then row else incR row ((rnd l i).getD a 0)
def rowM (n : Nat) (l : List Int) (a i : Nat) : List Int := (List.range i).foldl (zeW l a) (List.replicate n 0)
theorem rowM_zero (n : Nat) (l : List Int) (a : Nat) : rowM n l a 0 = List.replicate n 0 := rfl
theorem ze0 (n : Nat) (l : List Int) (a i : Nat) : rowM n l a (i + 1) = zeW l a (rowM n l a i) i := foldl_range_succ _ _ _
theorem zdG (n : Nat) (l : List Int) (a i : Nat) : (rowM n l a i).length = n := by
  induction i with
  | zero => simp [rowM]
  | succ i ih => rw [ze0]; unfold zeW; split <;> simp [zf7, ih]
def midM (n : Nat) (l : List Int) (i c : Nat) : List (List Int) := (List.range n).map fun a => rowM n l a (if a < c then i + 1 else i)
def meetM (n : Nat) (l : List Int) (k : Nat) : List (List Int) := (List.range n).map fun a => rowM n l a k
theorem zhH (n : Nat) (l : List Int) (i : Nat) : midM n l i 0 = meetM n l i := by
  unfold midM meetM; apply List.map_congr_left; intro a _; rw [if_neg (by omega)]
theorem midM_all (n : Nat) (l : List Int) (i : Nat) : midM n l i n = meetM n l (i + 1) := by
  unfold midM meetM; apply List.map_congr_left; intro a ha; rw [if_pos (by simpa using ha)]
theorem meetM_zero (n : Nat) (l : List Int) : meetM n l 0 = zeroM n := by
  unfold meetM zeroM
  exact List.eq_replicate_iff.2 ⟨by simp, by intro b hb; obtain ⟨a, _, rfl⟩ := List.mem_map.1 hb; rfl⟩
theorem zi1 (n : Nat) (l : List Int) (i c : Nat) : SqM n (midM n l i c) := ⟨by simp [midM], fun j hj => by simp [midM, List.getD_eq_getElem?_getD, hj, zdG]⟩
theorem meetM_sq (n : Nat) (l : List Int) (k : Nat) : SqM n (meetM n l k) := by rw [← zhH]; exact zi1 _ _ _ _
theorem midM_getD (n : Nat) (l : List Int) (i c a : Nat) (h : a < n) : (midM n l i c).getD a [] = rowM n l a (if a < c then i + 1 else i) := by simp [midM, List.getD_eq_getElem?_getD, h]
theorem midM_same {n : Nat} {l : List Int} {i c : Nat} (hc : c < n) (h : (rnd l i).getD c 0 = c) : midM n l i (c + 1) = midM n l i c := by
  unfold midM
  apply List.map_congr_left
  intro a _
  by_cases e : a = c
  · subst e
    rw [if_pos (by omega), if_neg (by omega), ze0]
    unfold zeW
    rw [if_pos h]
  · by_cases e2 : a < c
    · rw [if_pos (by omega), if_pos e2]
    · rw [if_neg (by omega), if_neg e2]
theorem midM_inc {n : Nat} {l : List Int} {i c : Nat} (hc : c < n) (h : ¬ (rnd l i).getD c 0 = c) : midM n l i (c + 1) = incM (midM n l i c) c ((rnd l i).getD c 0) := by
  unfold incM
  rw [Int.toNat_natCast, midM_getD _ _ _ _ _ hc, if_neg (by omega)]
  apply List.ext_getElem?
  intro j
  rw [List.getElem?_set]
  by_cases e : c = j
  · subst e
    rw [if_pos rfl, if_pos (by rw [(zi1 n l i c).1]; exact hc)]
    unfold midM
    rw [List.getElem?_map, List.getElem?_range hc]
    simp only [Option.map_some]
    rw [if_pos (by omega), ze0]
    unfold zeW
    rw [if_neg h]
  · rw [if_neg e]
    unfold midM
    rw [List.getElem?_map, List.getElem?_map]
    by_cases hj : j < n
    · rw [List.getElem?_range hj]
      simp only [Option.map_some]
      by_cases e2 : j < c
      · rw [if_pos (by omega), if_pos e2]
      · rw [if_neg (by omega), if_neg e2]
    · rw [List.getElem?_eq_none (by simpa using hj)]; rfl
/-! The carry over matrix. -/
/-! Cost and balance. -/
def balAt (M : List (List Int)) (i j : Nat) : Bool := decide (i = j) || (M.getD i []).getD j 0 == 1
def balB (M : List (List Int)) : Bool := (List.range M.length).all fun i => (List.range (M.getD i []).length).all fun j => balAt M i j
theorem balB_bad {M : List (List Int)} {i j : Nat} (hi : i < M.length) (hj : j < (M.getD i []).length) (h : balAt M i j = false) : balB M = false := by
  unfold balB
  exact zbH hi (zbH hj h)
theorem zhG {M : List (List Int)} (h : ∀ i, i < M.length → ∀ j, j < (M.getD i []).length → balAt M i j = true) : balB M = true := by
  unfold balB
  exact zbU fun i hi => zbU fun j hj => h i hi j hj
def robinB (n k : Nat) (l : List Int) : Bool := decide (k = n - 1 + n % 2) && balB (meetM n l k)
end Go.Abs
end

section
namespace Go.Abs
def zhP (zs : List Int) : List Int := zs.mergeSort fun x y => decide (x ≤ y)
theorem sortedL_length (zs : List Int) : (zhP zs).length = zs.length := by simp [zhP]
theorem zdY {α : Type} [DecidableEq α] : ∀ (y z : List α), y.Nodup → (∀ x ∈ y, x ∈ z) → z.length ≤ y.length → y.Perm z
  | [], z, _, _, h => by
    have : z = [] := List.eq_nil_of_length_eq_zero (by simpa using h)
    rw [this]
  | a :: y, z, hn, hs, h => by
    have ha : a ∈ z := hs a (List.mem_cons_self)
    have hn' := List.nodup_cons.1 hn
    have hp := List.perm_cons_erase ha
    have hl := List.length_erase_of_mem ha
    have hz : 0 < z.length := List.length_pos_of_mem ha
    have ih := zdY y (z.erase a) hn'.2 (fun x hx => (List.mem_erase_of_ne (by rintro rfl; exact hn'.1 hx)).2 (hs x (List.mem_cons_of_mem _ hx))) (by rw [hl]; simp at h; omega)
    exact (ih.cons a).trans hp.symm
def ordB (n : Nat) (y : List Int) : Bool := decide (y.length = n) && decide (zhP y = seqL 0 n)
def metL (n : Nat) (y : List Int) : List Bool := (List.range n).map fun (j : Nat) => y.contains (j : Int)
theorem zbA (n : Nat) (y : List Int) : (metL n y).length = n := by simp [metL]
/-! ### Steps -/
def stpI (n : Nat) (a b : Int) : Int := (b - a) % (n : Int)
def stpL (n : Nat) (y : List Int) : List Int := (List.range (y.length - 1)).map fun i => stpI n (y.getD i 0) (y.getD (i + 1) 0)
theorem stpL_length (n : Nat) (y : List Int) : (stpL n y).length = y.length - 1 := by simp [stpL]
end Go.Abs
end

section
namespace Go.Abs
def colL (ll : List (List Int)) (i c : Nat) : List Int := (List.range c).map fun k => (ll.getD k []).getD i 0
theorem zbE (ll : List (List Int)) (i c : Nat) : (colL ll i c).length = c := by simp [colL]
end Go.Abs
end

section
namespace Go.Abs
end Go.Abs
end

section
namespace Go.Abs
def ixN (m a b : Nat) : Int := ((a * m + b : Nat) : Int)
def cntMx (m : Nat) (I : List Int) : List (List Int) := (List.range m).map fun a => (List.range m).map fun b => ((I.count (ixN m a b) : Nat) : Int)
/-! ### Neighbours -/
end Go.Abs
end

section
namespace Go.Abs
open Go Go.RowKit
def Rg (H : AH) (v : Value) (ll : List (List Int)) : Prop :=
  (ll = [] ∧ ∃ a c, v = .slice a 0 c ∧ (a = none → c = 0)) ∨ ∃ i o u c r, v = .slice (some ⟨i, o, u⟩) ll.length c ∧ H.row i = some r ∧
    ∀ j, j < ll.length → ∃ x m, r.cells[o + j]? = some x ∧ Rs 1 H x m (ll.getD j [])
theorem Rg.rd2 {H : AH} {v : Value} {ll : List (List Int)} (h : Rg H v ll) : Rd2 1 H v ll := by
  rcases h with h | ⟨i, o, u, c, r, hv, hr, hj⟩
  · exact .inl h
  · refine .inr ⟨i, o, u, c, r, hv, hr, fun j hjl => ?_⟩
    obtain ⟨x, m, hx, hf⟩ := hj j hjl
    exact ⟨x, m, hx, hf.rd⟩
theorem Rg.same {H H' : AH} {v : Value} {ll : List (List Int)} (h : Rg H v ll) (hs : ∀ i r, H.row i = some r → H'.row i = some r) : Rg H' v ll := by
  rcases h with h | ⟨i, o, u, c, r, hv, hr, hj⟩
  · exact .inl h
  · refine .inr ⟨i, o, u, c, r, hv, hs _ _ hr, fun j hjl => ?_⟩
    obtain ⟨x, m, hx, hf⟩ := hj j hjl
    exact ⟨x, m, hx, hf.same hs⟩
theorem Rg.len {H : AH} {v : Value} {ll : List (List Int)} (h : Rg H v ll) (H' : AH) : asSl v (.val (.int .i64 0) H') (fun _ _ _ n _ => .val (.int .i64 (n : Int)) H') = .val (.int .i64 (ll.length : Int)) H' := h.rd2.len H'
theorem Rg.one {H : AH} {v : Value} {ll : List (List Int)} (h : Rg H v ll) : v.oneCell' = true := h.rd2.one
theorem Rg.get {H : AH} {v : Value} {ll : List (List Int)} (h : Rg H v ll) {j : Nat} (hj : j < ll.length) :
    ∃ i o u c r x, v = .slice (some ⟨i, o, u⟩) ll.length c ∧ H.row i = some r ∧ r.cells[o + j]? = some x ∧ Rs 1 H x (ll.getD j []).length (ll.getD j []) ∧ Row.ok r [x] := by
  rcases h with ⟨rfl, _⟩ | ⟨i, o, u, c, r, rfl, hr, h3⟩
  · simp at hj
  · obtain ⟨x, m, hx, hf⟩ := h3 j hj
    have hm := hf.rd.lenK1
    subst hm
    exact ⟨i, o, u, c, r, x, rfl, hr, hx, hf, ok_one hf.rd.one⟩
theorem Ow.rs {B H : AH} {L : List Th} (h : Ow B H L) (k : Nat) {z n : Nat} {ty : TypeId} {v : Value} {l : List Int} (hk : L[k]? = some (.sl z ty v n (ints l))) : Rs z H v n l := by
  obtain ⟨S, _, hp⟩ := h.at hk
  exact cap_rs (ze1 hp)
def RowsC (vs : List Value) (ll : List (List Int)) (H : AH) : Prop := vs.length = ll.length ∧ ∀ j, j < ll.length → ∃ x, vs[j]? = some x ∧ Rs 1 H x (ll.getD j []).length (ll.getD j [])
theorem RowsC.nil (H : AH) : RowsC [] [] H := ⟨rfl, fun j h => by simp at h⟩
theorem RowsC.app {vs ws : List Value} {ll mm : List (List Int)} {H : AH} (h : RowsC vs ll H) (k : RowsC ws mm H) : RowsC (vs ++ ws) (ll ++ mm) H := by
  refine ⟨by simp [h.1, k.1], fun j hj => ?_⟩
  rw [List.length_append] at hj
  by_cases e : j < ll.length
  · obtain ⟨y, h1, h2⟩ := h.2 j e
    have e2 : (ll ++ mm).getD j [] = ll.getD j [] := by rw [List.getD_eq_getElem?_getD, List.getD_eq_getElem?_getD, List.getElem?_append_left e]
    rw [e2]
    exact ⟨y, by rw [List.getElem?_append_left (by rw [h.1]; exact e)]; exact h1, h2⟩
  · obtain ⟨y, h1, h2⟩ := k.2 (j - ll.length) (by omega)
    have e2 : (ll ++ mm).getD j [] = mm.getD (j - ll.length) [] := by rw [List.getD_eq_getElem?_getD, List.getD_eq_getElem?_getD, List.getElem?_append_right (by omega)]
    rw [e2]
    exact ⟨y, by rw [List.getElem?_append_right (by rw [h.1]; omega), h.1]; exact h1, h2⟩
def Rc (u : Value) (ws : List Value) (ll : List (List Int)) (H : AH) : Prop :=
  RowsC ws ll H ∧ ((u = .slice none 0 0 ∧ ws = []) ∨ ∃ i o s c r, u = .slice (some ⟨i, o, s⟩) ws.length c ∧ H.row i = some r ∧ o + ws.length ≤ r.cells.length ∧ seg r.cells o ws.length = ws)
theorem Ow.addNil2 {B H : AH} {L : List Th} (h : Ow B H L) {ty ty' : TypeId} : Ow B H (L ++ [.sl2 (Value.int .i64) ty ty' (.slice none 0 0) []]) := h.add _ (Nat.le_refl _) h.sc (fun _ _ => rfl) fun _ _ => .inl ⟨rfl, rfl⟩
end Go.Abs
end

section
namespace Go.Abs
open Go Go.RowKit
theorem Ow.front {B H : AH} {L : List Th} {x : Th} (h : Ow B H (L ++ [x])) : Ow B H (x :: L) := by
  refine h.sub (fun j => if j = 0 then L.length else j - 1) (fun j hj => ?_) fun i j hi hj e => ?_
  · rcases j with _ | j
    · show (L ++ [x])[L.length]? = some x
      simp
    · have hj : j < L.length := by simpa using hj
      show (L ++ [x])[if j + 1 = 0 then L.length else j + 1 - 1]? = L[j]?
      rw [if_neg (by omega), Nat.add_sub_cancel, List.getElem?_append_left hj]
  · rw [List.length_cons] at hi hj
    split at e <;> split at e <;> omega
def OwX (b : Nat) (H : AH) (L : List Th) : Prop := ∃ B : AH, B.next = b ∧ Ow B H L
theorem OwX.sc {b : Nat} {H : AH} {L : List Th} (h : OwX b H L) : Sc H := by obtain ⟨B, _, o⟩ := h; exact o.sc
theorem OwX.next {b : Nat} {H : AH} {L : List Th} (h : OwX b H L) : b ≤ H.next := by obtain ⟨B, e, o⟩ := h; have := o.next; omega
theorem OwX.map {b : Nat} {H H' : AH} {L M : List Th} (h : OwX b H L) (f : ∀ B, Ow B H L → Ow B H' M) : OwX b H' M := by obtain ⟨B, e, o⟩ := h; exact ⟨B, e, f B o⟩
theorem OwX.below {b : Nat} {H H' : AH} {L : List Th} (h : OwX b H L) (hr : ∀ i, b ≤ i → i < H.next → H'.row i = H.row i) (hn : H.next ≤ H'.next) (hs : Sc H') : OwX b H' L := by
  obtain ⟨B, e, o⟩ := h
  refine ⟨⟨b, H'.row⟩, rfl, hs, by have := o.next; show b ≤ H'.next; omega, fun i _ => rfl, ?_⟩
  obtain ⟨w, hw⟩ := o.own
  refine ⟨fun i => if i < H.next then w i else L.length, fun k p hk => ?_⟩
  have hk2 := (List.getElem?_eq_some_iff.1 hk).1
  refine p.loc H H' _ _ (fun i hi => ?_) (fun i r hi hr' => ?_) (hw k p hk)
  · show b ≤ i ∧ i < H'.next ∧ (if i < H.next then w i else L.length) = k
    rw [if_pos hi.2.1]
    exact ⟨by omega, by omega, hi.2.2⟩
  · rw [hr i (by omega) hi.2.1]; exact hr'
def PreK (i : Nat) (vs : List Value) (r : Row) : Prop := r.rw = true ∧ vs.length ≤ r.cells.length ∧ r.cells.take vs.length = vs
end Go.Abs
end
