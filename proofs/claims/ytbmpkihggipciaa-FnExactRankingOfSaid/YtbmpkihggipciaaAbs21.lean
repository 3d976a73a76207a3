/- The small logic, twenty-first text: drawn regions in which a chain of operations and some others are free of each other: all their orders at once, by what holds while some of them are still to come. No program is named here. -/
import Derived.Test.YtbmpkihggipciaaAbs14
set_option linter.unusedSimpArgs false
set_option linter.unusedVariables false
namespace Go.Abs
open Go Go.RowKit

def headIs (cs : List Nat) (i : Nat) : Bool := match cs with | c :: _ => i == c | [] => false

/-- cs one after the other, as in any order, then post. -/
def okPool (ops : Array Oper) (post : OT) : Nat → List Nat → List Nat → Array Bool → Bool
  | 0, cs, as, listed => cs.isEmpty && as.isEmpty && okOT ops post listed
  | n + 1, cs, as, listed =>
    if cs.isEmpty && as.isEmpty then okOT ops post listed else
    !(Region.ready .any ops listed).isEmpty && (Region.ready .any ops listed).all (fun i => headIs cs i || as.contains i) &&
    (match cs with | c :: cs' => (!(Region.ready .any ops listed).contains c) || okPool ops post n cs' as (listed.setIfInBounds c true) | [] => true) &&
    as.all fun a => (!(Region.ready .any ops listed).contains a) || okPool ops post n cs (as.erase a) (listed.setIfInBounds a true)

def okPre (ops : Array Oper) (post : OT) (cs as : List Nat) : List Nat → Array Bool → Bool
  | [], listed => okPool ops post (cs.length + as.length) cs as listed
  | i :: is, listed =>
    (match ops[i]? with
     | some o => if quietOp o.op = true then (Region.ready .any ops listed).contains i && Region.free .any ops listed i else Region.ready .any ops listed == [i]
     | none => false) && okPre ops post cs as is (listed.setIfInBounds i true)

structure PoolJ (P : Program) (ops : Array Oper) (Q : T → AH → Prop) (post : OT) (J : List Nat → List Nat → T → AH → Prop) : Prop where
  call : ∀ c cs as t H, J (c :: cs) as t H → stepI P ops (J cs as) c (ops.toList[c]?) t H
  free : ∀ a cs as t H, a ∈ as → J cs as t H → stepI P ops (J cs (as.erase a)) a (ops.toList[a]?) t H
  done : ∀ t H, J [] [] t H → awpT P ops Q post t H

theorem AAny_pool {P : Program} {ops : Array Oper} {Q : T → AH → Prop} {post : OT} {J : List Nat → List Nat → T → AH → Prop} (hJ : PoolJ P ops Q post J) : ∀ (n : Nat) (cs as : List Nat) (listed : Array Bool) (t : T) (H : AH) (f : Nat), n + post.depth ≤ f → Closed ops listed → okPool ops post n cs as listed = true → J cs as t H → AAny P ops Q f listed t H
  | 0, cs, as, listed, t, H, f, hf, hc, hok, h => by
    simp only [okPool, Bool.and_eq_true, List.isEmpty_iff] at hok
    obtain ⟨⟨rfl, rfl⟩, h3⟩ := hok
    exact AAny_tree post listed t H f (by omega) hc h3 (hJ.done t H h)
  | n + 1, cs, as, listed, t, H, 0, hf, hc, hok, h => by omega
  | n + 1, cs, as, listed, t, H, f + 1, hf, hc, hok, h => by
    unfold okPool at hok
    split at hok
    · rename_i he
      simp only [Bool.and_eq_true, List.isEmpty_iff] at he
      obtain ⟨rfl, rfl⟩ := he
      exact AAny_tree post listed t H (f + 1) (by omega) hc hok (hJ.done t H h)
    · simp only [Bool.and_eq_true] at hok
      obtain ⟨⟨⟨h1, h2⟩, h3⟩, h4⟩ := hok
      refine ⟨fun h0 => (by rw [h0] at h1; simp at h1), fun i hi => ?_⟩
      have hci : (Region.ready .any ops listed).contains i = true := by simpa using hi
      have h5 := List.all_eq_true.1 h2 i hi
      rw [Bool.or_eq_true] at h5
      rcases h5 with h5 | h5
      · cases cs with
        | nil => simp [headIs] at h5
        | cons c cs' =>
          have e : i = c := by simpa [headIs] using h5
          subst e
          simp only [hci, Bool.not_true, Bool.false_or] at h3
          exact aStep_mono (stepI_s (hJ.call i cs' as t H h)) fun t' H' hk => ⟨hk.1, AAny_pool hJ n cs' as _ t' H' f (by omega) (hc.set hi) h3 hk.2⟩
      · have hm : i ∈ as := List.contains_iff_mem.1 h5
        have h6 := List.all_eq_true.1 h4 i hm
        simp only [hci, Bool.not_true, Bool.false_or] at h6
        exact aStep_mono (stepI_s (hJ.free i cs as t H hm h)) fun t' H' hk => ⟨hk.1, AAny_pool hJ n cs (as.erase i) _ t' H' f (by omega) (hc.set hi) h6 hk.2⟩

theorem AAny_pre {P : Program} {ops : Array Oper} {Q : T → AH → Prop} {post : OT} {J : List Nat → List Nat → T → AH → Prop} (hJ : PoolJ P ops Q post J) (cs as : List Nat) : ∀ (is : List Nat) (listed : Array Bool) (t : T) (H : AH) (f : Nat), is.length + (cs.length + as.length + post.depth) ≤ f → Closed ops listed → okPre ops post cs as is listed = true → awpI P ops (J cs as) is t H → AAny P ops Q f listed t H
  | [], listed, t, H, f, hf, hc, hok, h => AAny_pool hJ _ cs as listed t H f (by simpa using hf) hc hok h
  | i :: is, listed, t, H, 0, hf, hc, hok, h => by simp at hf
  | i :: is, listed, t, H, f + 1, hf, hc, hok, h => by
    simp only [okPre, Bool.and_eq_true] at hok
    simp only [List.length_cons] at hf
    obtain ⟨h1, h2⟩ := hok
    unfold awpI at h
    cases ho : ops[i]? with
    | none => simp [ho] at h1
    | some o =>
      simp only [ho] at h1
      split at h1
      · rename_i hq
        simp only [Bool.and_eq_true] at h1
        obtain ⟨hr, hfr⟩ := h1
        have hr' : i ∈ Region.ready .any ops listed := by simpa using hr
        obtain ⟨v, hy, hk⟩ := aStep_quiet ho hq (stepI_s h)
        exact AAny_first ho hq f listed t H hc (Region.free_spec ho hfr) hr' hy (AAny_pre hJ cs as is _ _ H f (by omega) (hc.set hr') h2 hk.2)
      · have hr : Region.ready .any ops listed = [i] := by simpa using h1
        refine ⟨fun h0 => (by rw [hr] at h0; cases h0), fun j hj => ?_⟩
        have hji : j = i := by rw [hr] at hj; simpa using hj
        subst hji
        exact aStep_mono (stepI_s h) fun t' H' hk => ⟨hk.1, AAny_pre hJ cs as is _ t' H' f (by omega) (hc.set hj) h2 hk.2⟩

theorem draw_pool {P : Program} {id : Nat} {ops : Array Oper} {Q : Exit → T → AH → Prop} {t : T} {H : AH} (is cs as : List Nat) (post : OT) (hm : P.follows .mixedOrders = true) (hok : okPre ops post cs as is (Array.replicate ops.size false) = true) (hl : is.length + (cs.length + as.length + post.depth) ≤ ops.size)
    (J : List Nat → List Nat → T → AH → Prop) (hJ : PoolJ P ops (Q .normal) post J) (h : awpI P ops (J cs as) is t H) : awp P (.region id ops true) Q t H := by
  intro base ρ w tmps QC hS hd hQ
  have hA := AAny_pre hJ cs as is _ t H ops.size hl ⟨by simp, fun j oj hj hl => by rw [getD_replicate_false'] at hl; cases hl⟩ hok h
  refine wp_region_any hm (AAny_ok ops.size _ t H ρ w.drew tmps hA ⟨hS.1.drew, hS.2.ext (ext_drew (base := base) (H := H) w)⟩ ?_ fun t' H' ρ' w' tmps' hq hs he hz => ?_)
  · intro o ho i hi
    have := List.all_eq_true.1 hd o ho
    simp only [hi, decide_eq_true_eq] at this
    exact this
  · exact hQ .normal t' H' ρ' w' tmps' hq hs ((ext_drew (base := base) (H := H) (ρ := ρ) w).trans he) hz
theorem ACalls.scf {P : Program} {f : FuncId} {args : List Value} {H : AH} {v0 : Value} {X : AH → Prop} (h : ACalls P f args H (fun v H' => v = v0 ∧ X H')) : ACalls P f args H (fun v H' => v = v0 ∧ X H' ∧ Sc H') :=
  h.sc.mono fun _ _ h => ⟨h.1.1, h.1.2, h.2⟩
end Go.Abs
