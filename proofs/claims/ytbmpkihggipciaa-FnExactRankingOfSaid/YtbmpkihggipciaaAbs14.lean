/- The small logic, fourteenth text: drawn regions in which two or three operations are free of each other: all their orders are walked. No program is named here. -/
import Derived.Test.YtbmpkihggipciaaAbs13
set_option linter.unusedSimpArgs false
set_option linter.unusedVariables false
namespace Go.Abs
open Go Go.RowKit

/-- Orders, with forks. -/
inductive OT
  | nil
  | one (i : Nat) (r : OT)
  | two (i j : Nat) (ri rj : OT)
  | three (i j k : Nat) (ri rj rk : OT)

def OT.depth : OT → Nat
  | .nil => 0
  | .one _ r => r.depth + 1
  | .two _ _ a b => max a.depth b.depth + 1
  | .three _ _ _ a b c => max a.depth (max b.depth c.depth) + 1

/-- A list, then a tree. -/
def OT.run : List Nat → OT → OT
  | [], r => r
  | i :: is, r => .one i (OT.run is r)

def okOT (ops : Array Oper) : OT → Array Bool → Bool
  | .nil, listed => (Region.ready .any ops listed).isEmpty
  | .one i r, listed =>
    (match ops[i]? with
     | some o => if quietOp o.op = true then (Region.ready .any ops listed).contains i && Region.free .any ops listed i else Region.ready .any ops listed == [i]
     | none => false) && okOT ops r (listed.setIfInBounds i true)
  | .two i j a b, listed => Region.ready .any ops listed == [i, j] && okOT ops a (listed.setIfInBounds i true) && okOT ops b (listed.setIfInBounds j true)
  | .three i j k a b c, listed => Region.ready .any ops listed == [i, j, k] && okOT ops a (listed.setIfInBounds i true) && okOT ops b (listed.setIfInBounds j true) && okOT ops c (listed.setIfInBounds k true)

def awpT (P : Program) (ops : Array Oper) (Q : T → AH → Prop) : (o : OT) → T → AH → (fun _ => Prop) (ops, Q, o)
  | .nil, t, H => Q t H
  | .one i r, t, H => stepI P ops (awpT P ops Q r) i (ops.toList[i]?) t H
  | .two i j a b, t, H => stepI P ops (awpT P ops Q a) i (ops.toList[i]?) t H ∧ stepI P ops (awpT P ops Q b) j (ops.toList[j]?) t H
  | .three i j k a b c, t, H => stepI P ops (awpT P ops Q a) i (ops.toList[i]?) t H ∧ stepI P ops (awpT P ops Q b) j (ops.toList[j]?) t H ∧ stepI P ops (awpT P ops Q c) k (ops.toList[k]?) t H

theorem stepI_a {P : Program} {ops : Array Oper} {K : T → AH → Prop} {i : Nat} {t : T} {H : AH} (h : stepI P ops K i (ops.toList[i]?) t H) :
    aStep P ops.toList i t H fun t' H' => ((∃ o, ops.toList[i]? = some o ∧ quietOp o.op = true) ∨ sinkB ops i = true ∨ LE H H') ∧ K t' H' := by
  unfold aStep
  cases e : ops.toList[i]? with
  | none => rw [e] at h; exact h.elim
  | some o =>
    rw [e] at h
    unfold stepI at h
    simp only
    cases hg : o.guard with
    | none => simp only [hg] at h ⊢; exact runOut_mono (fun v H' k => ⟨k.1.imp (fun q => ⟨o, rfl, q⟩) id, k.2⟩) _ h
    | some g => simp only [hg] at h ⊢; exact condW_mono h (runOut_mono (fun v H' k => ⟨k.1.imp (fun q => ⟨o, rfl, q⟩) id, k.2⟩) _) (fun k => ⟨.inr (.inr (LE.refl H)), k⟩)

/-- A quiet step leaves the heap. -/
theorem stepI_s {P : Program} {ops : Array Oper} {K : T → AH → Prop} {i : Nat} {t : T} {H : AH} (h : stepI P ops K i (ops.toList[i]?) t H) :
    aStep P ops.toList i t H fun t' H' => (sinkB ops i = true ∨ LE H H') ∧ K t' H' := by
  cases e : ops.toList[i]? with
  | none => rw [e] at h; exact h.elim
  | some o =>
    by_cases hq : quietOp o.op = true
    · have ho : ops[i]? = some o := by simpa using e
      obtain ⟨v, hy, hk⟩ := aStep_quiet ho hq (stepI_a h)
      exact hy.step ho hq ⟨.inr (LE.refl _), hk.2⟩
    · refine aStep_mono (stepI_a h) fun t' H' hk => ⟨?_, hk.2⟩
      rcases hk.1 with ⟨o', e', q'⟩ | k
      · rw [e] at e'; cases e'; exact absurd q' hq
      · exact k

theorem AAny_tree {P : Program} {ops : Array Oper} {Q : T → AH → Prop} : ∀ (ot : OT) (listed : Array Bool) (t : T) (H : AH) (f : Nat), ot.depth ≤ f → Closed ops listed → okOT ops ot listed = true → awpT P ops Q ot t H → AAny P ops Q f listed t H
  | .nil, listed, t, H, f, _, _, hok, h => by
    have hr : Region.ready .any ops listed = [] := by simpa [okOT] using hok
    cases f with
    | zero => exact ⟨hr, h⟩
    | succ f => exact ⟨fun _ => h, by rw [hr]; simp⟩
  | .one i r, listed, t, H, 0, hl, _, _, _ => by simp [OT.depth] at hl
  | .two i j a b, listed, t, H, 0, hl, _, _, _ => by simp [OT.depth] at hl
  | .three i j k a b c, listed, t, H, 0, hl, _, _, _ => by simp [OT.depth] at hl
  | .one i r, listed, t, H, f + 1, hl, hc, hok, h => by
    simp only [okOT, Bool.and_eq_true] at hok
    simp only [OT.depth] at hl
    obtain ⟨h1, h2⟩ := hok
    unfold awpT at h
    cases ho : ops[i]? with
    | none => simp [ho] at h1
    | some o =>
      simp only [ho] at h1
      split at h1
      · rename_i hq
        simp only [Bool.and_eq_true] at h1
        obtain ⟨hr, hfr⟩ := h1
        have hr' : i ∈ Region.ready .any ops listed := by simpa using hr
        obtain ⟨v, hy, hk⟩ := aStep_quiet ho hq (stepI_s h)
        exact AAny_first ho hq f listed t H hc (Region.free_spec ho hfr) hr' hy (AAny_tree r _ _ H f (by omega) (hc.set hr') h2 hk.2)
      · have hr : Region.ready .any ops listed = [i] := by simpa using h1
        refine ⟨fun h0 => (by rw [hr] at h0; cases h0), fun j hj => ?_⟩
        have hji : j = i := by rw [hr] at hj; simpa using hj
        subst hji
        exact aStep_mono (stepI_s h) fun t' H' hk => ⟨hk.1, AAny_tree r _ t' H' f (by omega) (hc.set hj) h2 hk.2⟩
  | .two i j a b, listed, t, H, f + 1, hl, hc, hok, h => by
    simp only [okOT, Bool.and_eq_true] at hok
    simp only [OT.depth] at hl
    obtain ⟨⟨h1, h2⟩, h3⟩ := hok
    unfold awpT at h
    have hr : Region.ready .any ops listed = [i, j] := by simpa using h1
    refine ⟨fun h0 => (by rw [hr] at h0; cases h0), fun x hx => ?_⟩
    have hx2 : x = i ∨ x = j := by rw [hr] at hx; simpa using hx
    rcases hx2 with rfl | rfl
    · exact aStep_mono (stepI_s h.1) fun t' H' hk => ⟨hk.1, AAny_tree a _ t' H' f (by omega) (hc.set hx) h2 hk.2⟩
    · exact aStep_mono (stepI_s h.2) fun t' H' hk => ⟨hk.1, AAny_tree b _ t' H' f (by omega) (hc.set hx) h3 hk.2⟩
  | .three i j k a b c, listed, t, H, f + 1, hl, hc, hok, h => by
    simp only [okOT, Bool.and_eq_true] at hok
    simp only [OT.depth] at hl
    obtain ⟨⟨⟨h1, h2⟩, h3⟩, h4⟩ := hok
    unfold awpT at h
    have hr : Region.ready .any ops listed = [i, j, k] := by simpa using h1
    refine ⟨fun h0 => (by rw [hr] at h0; cases h0), fun x hx => ?_⟩
    have hx2 : x = i ∨ x = j ∨ x = k := by rw [hr] at hx; simpa using hx
    rcases hx2 with rfl | rfl | rfl
    · exact aStep_mono (stepI_s h.1) fun t' H' hk => ⟨hk.1, AAny_tree a _ t' H' f (by omega) (hc.set hx) h2 hk.2⟩
    · exact aStep_mono (stepI_s h.2.1) fun t' H' hk => ⟨hk.1, AAny_tree b _ t' H' f (by omega) (hc.set hx) h3 hk.2⟩
    · exact aStep_mono (stepI_s h.2.2) fun t' H' hk => ⟨hk.1, AAny_tree c _ t' H' f (by omega) (hc.set hx) h4 hk.2⟩

theorem draw_tree {P : Program} {id : Nat} {ops : Array Oper} {Q : Exit → T → AH → Prop} {t : T} {H : AH} (ot : OT) (hm : P.follows .mixedOrders = true) (hok : okOT ops ot (Array.replicate ops.size false) = true) (hl : ot.depth ≤ ops.size)
    (h : awpT P ops (Q .normal) ot t H) : awp P (.region id ops true) Q t H := by
  intro base ρ w tmps QC hS hd hQ
  have hA := AAny_tree ot _ t H ops.size hl ⟨by simp, fun j oj hj hl => by rw [getD_replicate_false'] at hl; cases hl⟩ hok h
  refine wp_region_any hm (AAny_ok ops.size _ t H ρ w.drew tmps hA ⟨hS.1.drew, hS.2.ext (ext_drew (base := base) (H := H) w)⟩ ?_ fun t' H' ρ' w' tmps' hq hs he hz => ?_)
  · intro o ho i hi
    have := List.all_eq_true.1 hd o ho
    simp only [hi, decide_eq_true_eq] at this
    exact this
  · exact hQ .normal t' H' ρ' w' tmps' hq hs ((ext_drew (base := base) (H := H) (ρ := ρ) w).trans he) hz

theorem awpT_nil (P : Program) (ops : Array Oper) (Q : T → AH → Prop) (t : T) (H : AH) : awpT P ops Q .nil t H = Q t H := (rfl)
theorem awpT_one (P : Program) (ops : Array Oper) (Q : T → AH → Prop) (i : Nat) (r : OT) (t : T) (H : AH) : awpT P ops Q (.one i r) t H = stepI P ops (awpT P ops Q r) i (ops.toList[i]?) t H := (rfl)
theorem awpT_run_nil (P : Program) (ops : Array Oper) (Q : T → AH → Prop) (r : OT) (t : T) (H : AH) : awpT P ops Q (OT.run [] r) t H = awpT P ops Q r t H := (rfl)
theorem awpT_run_cons (P : Program) (ops : Array Oper) (Q : T → AH → Prop) (i : Nat) (is : List Nat) (r : OT) (t : T) (H : AH) : awpT P ops Q (OT.run (i :: is) r) t H = stepI P ops (awpT P ops Q (OT.run is r)) i (ops.toList[i]?) t H := (rfl)
theorem awpT_two {P : Program} {ops : Array Oper} {Q : T → AH → Prop} {i j : Nat} {a b : OT} {t : T} {H : AH} (h1 : stepI P ops (awpT P ops Q a) i (ops.toList[i]?) t H) (h2 : stepI P ops (awpT P ops Q b) j (ops.toList[j]?) t H) : awpT P ops Q (.two i j a b) t H := ⟨h1, h2⟩
theorem awpT_three {P : Program} {ops : Array Oper} {Q : T → AH → Prop} {i j k : Nat} {a b c : OT} {t : T} {H : AH} (h1 : stepI P ops (awpT P ops Q a) i (ops.toList[i]?) t H) (h2 : stepI P ops (awpT P ops Q b) j (ops.toList[j]?) t H) (h3 : stepI P ops (awpT P ops Q c) k (ops.toList[k]?) t H) : awpT P ops Q (.three i j k a b c) t H := ⟨h1, h2, h3⟩
@[congr] theorem awpT_congr {P : Program} {ops : Array Oper} {o : OT} {Q : T → AH → Prop} {t t' : T} {H H' : AH} (h : t = t') (k : H = H') : awpT P ops Q o t H = awpT P ops Q o t' H' := by rw [h, k]

theorem asCells_one {v : Value} (h : v.oneCell' = true) (f : List Value → Out) : asCells v f = f [v] := by
  cases v <;> first | rfl | (simp [Value.oneCell'] at h)

theorem awp_cutQ {P : Program} {a : Code} {Q : Exit → T → AH → Prop} {N : T → AH → Prop} {t : T} {H : AH} (M : T → AH → Prop) (h : awp P a (seqQ M Q) t H) (k : ∀ t H, M t H → N t H) : awp P a (seqQ N Q) t H :=
  awp_mono a _ _ t H (seqQ_mono k fun _ _ _ h => h) h

/-- All rows lie below the end. -/
def Sc (H : AH) : Prop := ∀ i r, H.row i = some r → i < H.next
theorem Sc.push {H : AH} (h : Sc H) (r : Row) : Sc (H.push r) := by
  intro i x hx
  rw [AH.push_row] at hx
  rw [AH.push_next]
  split at hx
  · omega
  · have := h i x hx; omega
theorem Sc.le {H : AH} (h : Sc H) (r : Row) : LE H (H.push r) := ⟨Nat.le_succ _, fun i x hx => by rw [AH.push_row, if_neg (by have := h i x hx; omega)]; exact hx⟩
theorem ACalls.sc {P : Program} {f : FuncId} {args : List Value} {H : AH} {R : Value → AH → Prop} (h : ACalls P f args H R) : ACalls P f args H (fun v H' => R v H' ∧ Sc H') := by
  refine ⟨h.1, fun base ρ w args' hR hL => (h.2 base ρ w args' hR hL).mono ?_⟩
  rintro e w' ⟨v', v, H', ρ', rfl, hv, R', r⟩
  exact ⟨v', v, H', ρ', rfl, ⟨hv, R'.scope⟩, R', r⟩
end Go.Abs
