/- The small logic, eighth text: how contracts are joined, loops, answers that leave the heap as it was, lists of integers in cells. No program is named here. -/
import Derived.Test.YtbmpkihggipciaaAbs7
set_option linter.unusedSimpArgs false
set_option linter.unusedVariables false
namespace Go.Abs
open Go Go.RowKit

def is (v0 : Value) (H0 : AH) (v : Value) (H : AH) : Prop := v = v0 ∧ H = H0

theorem ACalls.mono {P : Program} {f : FuncId} {args : List Value} {H : AH} {R R' : Value → AH → Prop} (h : ACalls P f args H R) (k : ∀ v H', R v H' → R' v H') : ACalls P f args H R' := by
  refine ⟨h.1, fun base ρ w args' hR hL => (h.2 base ρ w args' hR hL).mono ?_⟩
  rintro e w' ⟨v', v, H', ρ', rfl, hv, r⟩
  exact ⟨v', v, H', ρ', rfl, k _ _ hv, r⟩

theorem ACalls.to {P : Program} {f : FuncId} {args : List Value} {H H0 : AH} {v0 : Value} {R : Value → AH → Prop} (h : ACalls P f args H (is v0 H0)) (k : R v0 H0) : ACalls P f args H R :=
  h.mono fun v H' hh => by rw [hh.1, hh.2]; exact k

theorem ACalls.fin {P : Program} {f : FuncId} {args : List Value} {H : AH} {v0 : Value} {X : AH → Prop} {R : Value → AH → Prop} (h : ACalls P f args H (fun v H' => v = v0 ∧ X H')) (k : ∀ H', X H' → R v0 H') : ACalls P f args H R :=
  h.mono fun v H' hh => by obtain ⟨rfl, hx⟩ := hh; exact k _ hx
theorem ACalls.ex {P : Program} {f : FuncId} {args : List Value} {H : AH} {α : Type} {g : α → Value} {X : α → AH → Prop} {R : Value → AH → Prop} (h : ACalls P f args H (fun v H' => ∃ u, v = g u ∧ X u H')) (k : ∀ u H', X u H' → R (g u) H') : ACalls P f args H R :=
  h.mono fun v H' hh => by obtain ⟨u, rfl, hx⟩ := hh; exact k _ _ hx

/-- What a relation says of the heap may be used. -/
theorem ACalls.wf {P : Program} {f : FuncId} {args : List Value} {H : AH} {R : Value → AH → Prop} (hc : callable P f = true) (h : (∀ i r, H.row i = some r → i < H.next) → ACalls P f args H R) : ACalls P f args H R :=
  ⟨hc, fun base ρ w args' hR hL => (h hR.scope).2 base ρ w args' hR hL⟩

/-! ### Going back to the heap of the call -/
theorem V1.back {ρ ρ' : Nat → Nat} {nx nx' : Nat} {w w' : World} {v u : Value} (h : V1 ρ nx w v u) : ∀ {v'}, V1 ρ' nx' w' v v' → V1 ρ' nx w' v v' := by
  induction h with
  | scal v h => intro v' k; cases k with
    | scal _ h => exact .scal _ h
    | ptr i o _ => simp [Abs.scal] at h
    | sle i o n c _ => simp [Abs.scal] at h
    | slu i o n c e o' c' _ _ _ => simp [Abs.scal] at h
    | func fn xs ys _ _ => simp [Abs.scal] at h
    | map i _ => simp [Abs.scal] at h
  | ptr i o h => intro v' k; cases k with
    | scal _ h => simp [Abs.scal] at h
    | ptr i o _ => exact .ptr i o h
  | sle i o n c h => intro v' k; cases k with
    | scal _ h => simp [Abs.scal] at h
    | sle i o n c _ => exact .sle i o n c h
  | slu i o n c e o' c' h hn hr => intro v' k; cases k with
    | scal _ h => simp [Abs.scal] at h
    | slu _ _ _ _ _ o2 c2 _ hn2 hr2 => exact .slu i o n c e o2 c2 h hn2 hr2
  | func fn xs ys hl h ih => intro v' k; cases k with
    | scal _ h => simp [Abs.scal] at h
    | func _ _ zs hl2 h2 =>
      refine .func fn xs zs hl2 fun j x z hx hz => ?_
      have hj : j < xs.size := (Array.getElem?_eq_some_iff.1 hx).1
      obtain ⟨y, hy⟩ : ∃ y, ys[j]? = some y := ⟨_, Array.getElem?_eq_getElem (by omega)⟩
      exact ih j x y hx hy (h2 j x z hx hz)
  | map i h => intro v' k; cases k with
    | scal _ h => simp [Abs.scal] at h
    | map _ _ => exact .map i h

theorem L1.back {ρ ρ' : Nat → Nat} {nx nx' : Nat} {w w' : World} {a b b' : List Value} (h : L1 ρ nx w a b) (k : L1 ρ' nx' w' a b') : L1 ρ' nx w' a b' := by
  refine ⟨k.1, fun j x y hx hy => ?_⟩
  obtain ⟨z, hz, hv⟩ := h.get hx
  exact hv.back (k.2 j x y hx hy)

theorem Rel.back {base : Nat} {ρ ρ' : Nat → Nat} {H H' : AH} {w w' : World} (R : Rel base ρ H w) (R' : Rel base ρ' H' w') (hle : LE H H') : Rel base ρ' H w' := by
  refine ⟨R.scope, fun i r hr hb => ?_, fun i r hr hb => ?_, fun i j r s hr hs => R'.inj i j r s (hle.row _ _ hr) (hle.row _ _ hs), R'.sz⟩
  · obtain ⟨h1, h2⟩ := R'.ro i r (hle.row _ _ hr) hb
    refine ⟨h1, fun j v hv ho => ?_⟩
    obtain ⟨v', hc, hV⟩ := h2 j v hv ho
    obtain ⟨_, k2⟩ := R.ro i r hr hb
    obtain ⟨u, _, hU⟩ := k2 j v hv ho
    exact ⟨v', hc, hU.back hV⟩
  · obtain ⟨h1, cs, hc, hL⟩ := R'.rwr i r (hle.row _ _ hr) hb
    obtain ⟨_, cs0, _, hL0⟩ := R.rwr i r hr hb
    exact ⟨h1, cs, hc, hL0.back hL⟩

/-- A value without references. -/
def flat1 (v : Value) : Bool := scal v
def flat : Value → Bool
  | .agg xs => xs.all scal
  | .tuple xs => xs.all fun v => match v with | .agg ys => ys.all scal | v => scal v
  | v => scal v

theorem VR.flat {ρ : Nat → Nat} {nx nx' : Nat} {w : World} {v v' : Value} (hf : Abs.flat v = true) (h : VR ρ nx w v v') : VR ρ nx' w v v' := by
  have one : ∀ u u', Abs.scal u = true → V1 ρ nx w u u' → V1 ρ nx' w u u' := fun u u' hs k => (V1.scal (ρ := ρ) (nx := nx') (w := w) u hs).back k
  have agg : ∀ xs ys : Array Value, xs.all Abs.scal = true → xs.size = ys.size → (∀ (j : Nat) (x y : Value), xs[j]? = some x → ys[j]? = some y → V1 ρ nx w x y) → VR ρ nx' w (.agg xs) (.agg ys) := by
    intro xs ys ha hl hv
    refine .agg xs ys hl fun j x y hx hy => one _ _ ?_ (hv j x y hx hy)
    obtain ⟨hj, rfl⟩ := Array.getElem?_eq_some_iff.1 hx
    exact (Array.all_eq_true.1 ha) j hj
  cases h with
  | one k =>
    refine .one (one _ _ ?_ k)
    cases k <;> simp_all [Abs.flat, Abs.scal]
  | agg xs ys hl hv => exact agg xs ys hf hl hv
  | tuple xs ys hl hv =>
    refine .tuple xs ys hl fun j x y hx hy => ?_
    obtain ⟨hj, rfl⟩ := Array.getElem?_eq_some_iff.1 hx
    have h1 := (Array.all_eq_true.1 hf) j hj
    have k := hv j _ y hx hy
    revert h1 k
    generalize xs[j] = x
    intro h1 k
    cases k with
    | one k => exact .one (one _ _ (by cases k <;> simp_all [Abs.scal]) k)
    | agg as bs hl2 hv2 => exact agg as bs h1 hl2 hv2
    | tuple as bs hl2 hv2 => simp [Abs.scal] at h1

/-- A call that answers with a value without references, and leaves what was there, leaves the heap. -/
theorem acalls_pure {P : Program} {f : FuncId} {args : List Value} {H : AH} {v0 : Value} (hf : flat v0 = true) (h : ACalls P f args H (fun v H' => v = v0 ∧ LE H H')) : ACalls P f args H (is v0 H) := by
  refine ⟨h.1, fun base ρ w args' hR hL => (h.2 base ρ w args' hR hL).mono ?_⟩
  rintro e w' ⟨v', v, H', ρ', rfl, ⟨rfl, hle⟩, R', hV, E⟩
  exact ⟨v', v, H, ρ', rfl, ⟨rfl, rfl⟩, hR.back R' hle, hV.flat hf, ⟨Nat.le_refl _, E.ag, E.bl, E.st⟩⟩

/-! ### What stays below a bound -/
structure Up (b : Nat) (H H' : AH) : Prop where
  next : H.next ≤ H'.next
  row : ∀ i, i < b → H'.row i = H.row i

theorem Up.refl (b : Nat) (H : AH) : Up b H H := ⟨Nat.le_refl _, fun _ _ => rfl⟩
theorem Up.trans {b b' : Nat} {A B C : AH} (h : Up b A B) (k : Up b' B C) (hb : b ≤ b') : Up b A C := ⟨Nat.le_trans h.next k.next, fun i hi => (k.row i (by omega)).trans (h.row i hi)⟩
theorem Up.push {b : Nat} {A H : AH} (h : Up b A H) (hb : b ≤ H.next) (r : Row) : Up b A (H.push r) := ⟨Nat.le_trans h.next (Nat.le_succ _), fun i hi => by rw [AH.push_row, if_neg (by omega)]; exact h.row i hi⟩
theorem Up.set {b : Nat} {A H : AH} (h : Up b A H) {i : Nat} (hi : b ≤ i) (cs : List Value) : Up b A (H.setCells i cs) := ⟨h.next, fun j hj => by rw [AH.setCells_row, if_neg (by omega)]; exact h.row j hj⟩
theorem Up.dropped {b : Nat} {A H : AH} (h : Up b A H) {i : Nat} (hi : b ≤ i) : Up b A (H.drop i) := ⟨h.next, fun j hj => by rw [AH.drop_row, if_neg (by omega)]; exact h.row j hj⟩
theorem Up.le {H H' : AH} (h : Up H.next H H') (hs : ∀ i r, H.row i = some r → i < H.next) : LE H H' := ⟨h.next, fun i r hr => by rw [h.row i (hs i r hr)]; exact hr⟩

/-- The same, where the walk keeps what lies below the heap's end. -/
theorem acalls_up {P : Program} {f : FuncId} {args : List Value} {H : AH} {v0 : Value} (hf : flat v0 = true) (h : ACalls P f args H (fun v H' => v = v0 ∧ Up H.next H H')) : ACalls P f args H (is v0 H) := by
  refine acalls_pure hf (ACalls.wf h.1 fun hs => h.mono fun v H' hh => ⟨hh.1, hh.2.le hs⟩)

/-! ### Loops, cuts -/
/-- A proposition, plainly typed. -/
def Holds (p : Prop) : Prop := p
theorem holds_def (p : Prop) : Holds p = p := (rfl)
theorem Holds.mp {p : Prop} (h : Holds p) : p := h
theorem awp_loop {P : Program} {c : Code} {Q : Exit → T → AH → Prop} {t : T} {H : AH} (I : Nat → T → AH → Prop) (n : Nat) (h0 : I n t H)
    (hs : ∀ n t H, I n t H → Holds (awp P c (seqQ (fun t' H' => ∃ m, m < n ∧ I m t' H') Q) t H)) : awp P (.loop c) Q t H := ⟨I, ⟨n, h0⟩, hs⟩

theorem runOut_mono' {P : Program} {H : AH} {K K' : Value → AH → Prop} (hk : ∀ v H', K v H' → K' v H') : ∀ o : Out, runOut P H o K → runOut P H o K'
  | .val v H', h => hk _ _ h
  | .unit H', h => hk _ _ h
  | .call f a, h => ACalls.mono h hk
  | .need p o, h => ⟨h.1, runOut_mono' hk o h.2⟩
  | .stuck, h => h.elim

theorem condW_mono' {v : Value} {b : Bool} {A A' B B' : Prop} (h : condW v b A B) (ha : A → A') (hb : B → B') : condW v b A' B' := by
  unfold condW at *
  split at h
  · split at h
    · rename_i hh; rw [if_pos hh]; exact ha h
    · rename_i hh; rw [if_neg hh]; exact hb h
  · split at h
    · rename_i hh; rw [if_pos hh]; exact hb h
    · exact h.elim
  · exact h.elim

theorem awpOps_mono {P : Program} {all : List Oper} {Q Q' : T → AH → Prop} (hq : ∀ t H, Q t H → Q' t H) : ∀ (os : List Oper) (t : T) (H : AH), awpOps P all Q os t H → awpOps P all Q' os t H
  | [], t, H, h => hq t H h
  | o :: os, t, H, h => by
    unfold awpOps at h ⊢
    cases hg : o.guard with
    | none => rw [hg] at h; exact runOut_mono' (fun v H' k => awpOps_mono hq os _ _ k) _ h
    | some g => rw [hg] at h; exact condW_mono' h (runOut_mono' (fun v H' k => awpOps_mono hq os _ _ k) _) (awpOps_mono hq os _ _)

theorem seqQ_mono {A A' : T → AH → Prop} {Q Q' : Exit → T → AH → Prop} (ha : ∀ t H, A t H → A' t H) (hq : ∀ e t H, Q e t H → Q' e t H) : ∀ e t H, seqQ A Q e t H → seqQ A' Q' e t H := by
  intro e t H h; cases e with
  | normal => exact ha _ _ h
  | _ => exact hq _ _ _ h

theorem blockQ_mono {id : Nat} {Q Q' : Exit → T → AH → Prop} (hq : ∀ e t H, Q e t H → Q' e t H) : ∀ e t H, blockQ id Q e t H → blockQ id Q' e t H := by
  intro e t H h; cases e with
  | exit i =>
    simp only [blockQ] at h ⊢
    by_cases hh : i = id
    · rw [if_pos hh] at h ⊢; exact hq _ _ _ h
    · rw [if_neg hh] at h ⊢; exact hq _ _ _ h
  | _ => exact hq _ _ _ h

theorem awp_mono {P : Program} : ∀ (c : Code) (Q Q' : Exit → T → AH → Prop) (t : T) (H : AH), (∀ e t H, Q e t H → Q' e t H) → awp P c Q t H → awp P c Q' t H
  | .skip, Q, Q', t, H, hq, h => hq _ _ _ h
  | .region _ ops false, Q, Q', t, H, hq, h => awpOps_mono (hq .normal) _ _ _ h
  | .region id ops true, Q, Q', t, H, hq, h => by
    intro base ρ w tmps QC hS hd hQ
    exact h base ρ w tmps QC hS hd fun e t' H' ρ' w' tmps' k => hQ e t' H' ρ' w' tmps' (seqQ_mono (fun _ _ => hq _ _ _) (fun _ _ _ f => f.elim) _ _ _ k)
  | .seq a b, Q, Q', t, H, hq, h => awp_mono a _ _ t H (seqQ_mono (fun t H => awp_mono b Q Q' t H hq) hq) h
  | .cond c a b, Q, Q', t, H, hq, h => by
    unfold awp at h ⊢
    unfold condC at h ⊢
    split at h
    · split at h
      · rename_i hh; rw [if_pos hh]; exact awp_mono a _ _ t H hq h
      · rename_i hh; rw [if_neg hh]; exact awp_mono b _ _ t H hq h
    · exact h.elim
  | .block id c, Q, Q', t, H, hq, h => awp_mono c _ _ t H (blockQ_mono hq) h
  | .loop c, Q, Q', t, H, hq, h => by
    obtain ⟨I, h0, hs⟩ := h
    exact ⟨I, h0, fun n t H k => awp_mono c _ _ t H (seqQ_mono (fun _ _ k => k) hq) (hs n t H k)⟩
  | .exit id, Q, Q', t, H, hq, h => hq _ _ _ h
  | .ret, Q, Q', t, H, hq, h => hq _ _ _ h
  | .rangeFunc _ _ _ _, _, _, _, _, _, h => by simp [awp] at h
  | .scope _, _, _, _, _, _, h => by simp [awp] at h
  | .goto _, _, _, _, _, _, h => by simp [awp] at h
  | .label _, _, _, _, _, _, h => by simp [awp] at h
  | .refuse _, _, _, _, _, _, h => by simp [awp] at h

/-- A cut: what holds in between is said once. -/
theorem awp_cut {P : Program} {a b : Code} {Q : Exit → T → AH → Prop} {t : T} {H : AH} (M : T → AH → Prop) (h : awp P a (seqQ M Q) t H) (k : ∀ t H, M t H → awp P b Q t H) : awp P (.seq a b) Q t H :=
  awp_mono a _ _ t H (seqQ_mono k fun _ _ _ h => h) h

theorem condC_dec {p : Prop} [Decidable p] {A B : Prop} (ha : p → A) (hb : ¬p → B) : condC (some (.bool (decide p))) A B := by
  by_cases h : p
  · simp only [condC, h, decide_true, if_true]; exact ha h
  · simp only [condC, h, decide_false]; exact hb h
theorem condC_of {b : Bool} {A B : Prop} (ha : b = true → A) (hb : b = false → B) : condC (some (.bool b)) A B := by
  cases b
  · exact hb rfl
  · exact ha rfl
theorem condW_of {b want : Bool} {A B : Prop} (ha : b = want → A) (hb : b ≠ want → B) : condW (.bool b) want A B := by
  unfold condW; simp only; split
  · rename_i h; exact ha h
  · rename_i h; exact hb h

theorem condC_true (A B : Prop) : condC (some (.bool true)) A B = A := (rfl)
theorem condC_false (A B : Prop) : condC (some (.bool false)) A B = B := (rfl)
theorem condW_tt (A B : Prop) : condW (.bool true) true A B = A := (rfl)
theorem condW_tf (A B : Prop) : condW (.bool true) false A B = B := (rfl)
theorem condW_ft (A B : Prop) : condW (.bool false) true A B = B := (rfl)
theorem condW_ff (A B : Prop) : condW (.bool false) false A B = A := (rfl)

theorem seqQ_normal (A : T → AH → Prop) (Q : Exit → T → AH → Prop) (t : T) (H : AH) : seqQ A Q .normal t H = A t H := (rfl)
theorem seqQ_ret (A : T → AH → Prop) (Q : Exit → T → AH → Prop) (t : T) (H : AH) : seqQ A Q .ret t H = Q .ret t H := (rfl)
theorem seqQ_exit (A : T → AH → Prop) (Q : Exit → T → AH → Prop) (i : Nat) (t : T) (H : AH) : seqQ A Q (.exit i) t H = Q (.exit i) t H := (rfl)
theorem blockQ_normal (id : Nat) (Q : Exit → T → AH → Prop) (t : T) (H : AH) : blockQ id Q .normal t H = Q .normal t H := (rfl)
theorem blockQ_ret (id : Nat) (Q : Exit → T → AH → Prop) (t : T) (H : AH) : blockQ id Q .ret t H = Q .ret t H := (rfl)
theorem blockQ_exit (id : Nat) (Q : Exit → T → AH → Prop) (i : Nat) (t : T) (H : AH) : blockQ id Q (.exit i) t H = if i = id then Q .normal t H else Q (.exit i) t H := (rfl)
theorem retQ_ret (P : Program) (rs : List ResultVar) (R : Value → AH → Prop) (t : T) (H : AH) : retQ P rs R .ret t H = ∃ v, resV P rs t H = some v ∧ R v H := (rfl)
theorem retQ_normal (P : Program) (rs : List ResultVar) (R : Value → AH → Prop) (t : T) (H : AH) : retQ P rs R .normal t H = ∃ v, resV P rs t H = some v ∧ R v H := (rfl)

/-! ### Lists of integers -/
def ints (l : List Int) : List Value := l.map (.int .i64)
theorem ints_length (l : List Int) : (ints l).length = l.length := by simp [ints]
theorem ints_get? (l : List Int) (i : Nat) (h : i < l.length) : (ints l)[i]? = some (.int .i64 (l.getD i 0)) := by simp [ints, h]
theorem ints_set (l : List Int) (i : Nat) (x : Int) : (ints l).set i (.int .i64 x) = ints (l.set i x) := by simp [ints, List.map_set]
theorem ints_append (a b : List Int) : ints a ++ ints b = ints (a ++ b) := by simp [ints]
theorem ints_seg (l : List Int) (o n : Nat) : seg (ints l) o n = ints ((l.drop o).take n) := by simp [ints, seg, List.map_take, List.map_drop]
theorem ints_splice (l m : List Int) (o : Nat) : splice (ints l) o (ints m) = ints (l.take o ++ m ++ l.drop (o + m.length)) := by simp [ints, splice, List.map_take, List.map_drop]
theorem ints_zero (n : Nat) : List.replicate n (Value.int .i64 0) = ints (List.replicate n 0) := by simp [ints]
theorem ints_zeros (n : Nat) : zeros n [.int .i64 0] = ints (List.replicate n 0) := by
  unfold zeros ints
  induction n with
  | zero => rfl
  | succ n ih => simp only [List.replicate_succ, List.flatten_cons, List.map_cons, ih]; rfl
theorem ints_inj {a b : List Int} : ints a = ints b ↔ a = b := by
  constructor
  · intro h
    induction a generalizing b with
    | nil => cases b with
      | nil => rfl
      | cons y b => simp [ints] at h
    | cons x a ih => cases b with
      | nil => simp [ints] at h
      | cons y b =>
        simp only [ints, List.map_cons, List.cons.injEq, Value.int.injEq, true_and] at h
        rw [h.1, ih h.2]
  · rintro rfl; rfl
theorem flat_ints (l : List Int) : (ints l).toArray.all scal = true := by
  simp [ints, Array.all_eq_true, scal]
theorem seg_all (l : List Value) (n : Nat) (h : n = l.length) : seg l 0 n = l := by subst h; simp [seg]
theorem splice_all (l m : List Value) (h : l.length = m.length) : splice l 0 m = m := by simp [splice, ← h]

/-! ### Places, parts, cells of what is written out -/
theorem placeT_array (P : Program) (n : Nat) (e : TypeId) : placeT P (.array n e) = (ti P e).bind fun E => some (fun i => some (i * E.size, E.size)) := (rfl)
theorem placeT_struct (P : Program) (fs : List (Nat × TypeId)) : placeT P (.struct fs) = (placesOf P fs).bind fun ps => some (fun i => ps[i]?) := (rfl)
theorem placesOf_nil (P : Program) : placesOf P [] = some [] := (rfl)
theorem placesOf_cons (P : Program) (o : Nat) (t : TypeId) (fs : List (Nat × TypeId)) : placesOf P ((o, t) :: fs) = (ti P t).bind fun I => (placesOf P fs).bind fun ps => some ((o, I.size) :: ps) := (rfl)
theorem fillL_nil (place : Nat → Option (Nat × Nat)) (cs : List Value) : fillL place cs [] = some cs := (rfl)
theorem fillL_cons (place : Nat → Option (Nat × Nat)) (cs : List Value) (i : Nat) (v : Value) (rest : List (Nat × Value)) : fillL place cs ((i, v) :: rest) = (place i).bind fun p =>
      if v.cells.size = p.2 ∧ p.1 + p.2 ≤ cs.length ∧ noTuple v = true then fillL place (splice cs p.1 v.cells.toList) rest else none := (rfl)
theorem cells_int (k : IntKind) (n : Int) : (Value.int k n).cells = #[.int k n] := (rfl)
theorem cells_bool (b : Bool) : (Value.bool b).cells = #[.bool b] := (rfl)
theorem cells_slice (a : Option Addr) (n c : Nat) : (Value.slice a n c).cells = #[.slice a n c] := (rfl)
theorem cells_str (s : ByteArray) : (Value.string s).cells = #[.string s] := (rfl)
theorem cells_agg (xs : Array Value) : (Value.agg xs).cells = xs := (rfl)
theorem noTuple_int (k : IntKind) (n : Int) : noTuple (.int k n) = true := (rfl)
theorem noTuple_bool (b : Bool) : noTuple (.bool b) = true := (rfl)
theorem noTuple_slice (a : Option Addr) (n c : Nat) : noTuple (.slice a n c) = true := (rfl)
theorem noTuple_str (s : ByteArray) : noTuple (.string s) = true := (rfl)
theorem noTuple_agg (xs : Array Value) : noTuple (.agg xs) = true := (rfl)
theorem one_int (k : IntKind) (n : Int) : (Value.int k n).oneCell' = true := (rfl)
theorem one_bool (b : Bool) : (Value.bool b).oneCell' = true := (rfl)
theorem one_slice (a : Option Addr) (n c : Nat) : (Value.slice a n c).oneCell' = true := (rfl)
theorem one_str (s : ByteArray) : (Value.string s).oneCell' = true := (rfl)
theorem one_ptr (a : Option Addr) : (Value.pointer a).oneCell' = true := (rfl)
theorem one_func (f : Fn) (a b : Array Value) : (Value.func f a b).oneCell' = true := (rfl)
theorem splice_nil0 (l : List Value) : splice l 0 [] = l := by simp [splice]
theorem splice_cons0 (x : Value) (l : List Value) (v : Value) (vs : List Value) : splice (x :: l) 0 (v :: vs) = v :: splice l 0 vs := by simp [splice]
theorem splice_succ (x : Value) (l : List Value) (o : Nat) (vs : List Value) : splice (x :: l) (o + 1) vs = x :: splice l o vs := by
  simp [splice, Nat.add_right_comm]
theorem seg_zero (l : List Value) (o : Nat) : seg l o 0 = [] := by simp [seg]
theorem seg_cons0 (x : Value) (l : List Value) (n : Nat) : seg (x :: l) 0 (n + 1) = x :: seg l 0 n := by simp [seg]
theorem seg_succ (x : Value) (l : List Value) (o n : Nat) : seg (x :: l) (o + 1) n = seg l o n := by simp [seg]
theorem seg_ints14 (l : List Int) (h : l.length = 14) : seg (ints l) 0 14 = ints l := seg_all _ _ (by rw [ints_length, h])
theorem splice_ints14 (l m : List Int) (h : l.length = 14) (h' : m.length = 14) : splice (ints l) 0 (ints m) = ints m := splice_all _ _ (by rw [ints_length, ints_length, h, h'])
def resC (I : TI) (H : AH) (v : Value) : Option Value := match v with
    | .pointer (some ⟨i, o, none⟩) => (H.row i).bind fun r => if I.d.isAgg = true then (if o + I.size ≤ r.cells.length ∧ r.rw = true then some (.agg (seg r.cells o I.size).toArray) else none) else (if r.rw = true then r.cells[o]? else none)
    | _ => none
theorem res1_cell (P : Program) (t : T) (H : AH) (a : Nat) (ty : TypeId) : res1 P t H (.cell a ty) = (ti P ty).bind fun I => resC I H (t a) := (rfl)
theorem resC_ptr (I : TI) (H : AH) (i o : Nat) : resC I H (.pointer (some ⟨i, o, none⟩)) = (H.row i).bind fun r => if I.d.isAgg = true then (if o + I.size ≤ r.cells.length ∧ r.rw = true then some (.agg (seg r.cells o I.size).toArray) else none) else (if r.rw = true then r.cells[o]? else none) := (rfl)
theorem add_n2 (a : Nat) : a + 1 + 1 = a + 2 := (rfl)
theorem add_n3 (a : Nat) : a + 2 + 1 = a + 3 := (rfl)
theorem add_n4 (a : Nat) : a + 3 + 1 = a + 4 := (rfl)
theorem add_n5 (a : Nat) : a + 4 + 1 = a + 5 := (rfl)
theorem add_n6 (a : Nat) : a + 5 + 1 = a + 6 := (rfl)
theorem add_n7 (a : Nat) : a + 6 + 1 = a + 7 := (rfl)
theorem add_n8 (a : Nat) : a + 7 + 1 = a + 8 := (rfl)
theorem add_n9 (a : Nat) : a + 8 + 1 = a + 9 := (rfl)
theorem add_n10 (a : Nat) : a + 9 + 1 = a + 10 := (rfl)
theorem add_n11 (a : Nat) : a + 10 + 1 = a + 11 := (rfl)
theorem add_n12 (a : Nat) : a + 11 + 1 = a + 12 := (rfl)
theorem ok_rw (ty : TypeId) (cs vs : List Value) : Row.ok ⟨ty, true, cs⟩ vs = True := by simp [Row.ok]
theorem ok_int (r : Row) (k : IntKind) (n : Int) : Row.ok r [.int k n] = True := by simp [Row.ok, Value.oneCell']
theorem ok_bool (r : Row) (b : Bool) : Row.ok r [.bool b] = True := by simp [Row.ok, Value.oneCell']
theorem ok_str (r : Row) (s : ByteArray) : Row.ok r [.string s] = True := by simp [Row.ok, Value.oneCell']
theorem ok_slice (r : Row) (a : Option Addr) (n c : Nat) : Row.ok r [.slice a n c] = True := by simp [Row.ok, Value.oneCell']
theorem ok_ints (r : Row) (l : List Int) : Row.ok r (ints l) = True := by simp [Row.ok, ints, Value.oneCell']
theorem w64 {n : Int} (h : -9223372036854775808 ≤ n ∧ n ≤ 9223372036854775807) : IntKind.i64.wrap n = n := by
  unfold IntKind.wrap
  simp only [IntKind.bits, IntKind.signed]
  simp only [Bool.true_and, decide_eq_true_eq, Nat.reduceSub, Int.reducePow]
  split
  · rename_i hh; have hh' : (9223372036854775808 : Int) ≤ n % 18446744073709551616 := of_decide_eq_true hh; omega
  · rename_i hh; have hh' : ¬ (9223372036854775808 : Int) ≤ n % 18446744073709551616 := fun k => hh (decide_eq_true k); omega
end Go.Abs
