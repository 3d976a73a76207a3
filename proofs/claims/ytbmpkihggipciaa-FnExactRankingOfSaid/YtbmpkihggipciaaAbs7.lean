/- The small logic, seventh text: regions whose order is drawn: one order of the text's choosing serves for all. No program is named here. -/
import Derived.Test.YtbmpkihggipciaaAbs6
set_option linter.unusedSimpArgs false
set_option linter.unusedVariables false
namespace Go.Abs
open Go Go.RowKit

/-- What was there is there, and reads the same. -/
structure LE (H H' : AH) : Prop where
  next : H.next ≤ H'.next
  row : ∀ i r, H.row i = some r → H'.row i = some r

theorem LE.refl (H : AH) : LE H H := ⟨Nat.le_refl _, fun _ _ h => h⟩
theorem LE.trans {A B C : AH} (h : LE A B) (k : LE B C) : LE A C := ⟨Nat.le_trans h.next k.next, fun i r hr => k.row i r (h.row i r hr)⟩

/-! ### An answer with another heap in it -/
def Out.setH (H' : AH) : Out → Out
  | .val v _ => .val v H'
  | .unit _ => .unit H'
  | .call f a => .call f a
  | .need p o => .need p (o.setH H')
  | .stuck => .stuck

section
variable (H' : AH)
theorem setH_bindO {α : Type} (x : Option α) (f : α → Out) : (bindO x f).setH H' = bindO x fun a => (f a).setH H' := by cases x <;> rfl
theorem setH_asI (v : Value) (f : IntKind → Int → Out) : (asI v f).setH H' = asI v fun a b => (f a b).setH H' := by cases v <;> rfl
theorem setH_asB (v : Value) (f : Bool → Out) : (asB v f).setH H' = asB v fun a => (f a).setH H' := by cases v <;> rfl
theorem setH_asP (v : Value) (f : Nat → Nat → Out) : (asP v f).setH H' = asP v fun a b => (f a b).setH H' := by unfold asP; split <;> rfl
theorem setH_asSl (v : Value) (n : Out) (f : Nat → Nat → Option Nat → Nat → Nat → Out) : (asSl v n f).setH H' = asSl v (n.setH H') fun a b c d e => (f a b c d e).setH H' := by unfold asSl; split <;> rfl
theorem setH_asAgg (v : Value) (f : List Value → Out) : (asAgg v f).setH H' = asAgg v fun a => (f a).setH H' := by cases v <;> rfl
theorem setH_asTup (v : Value) (f : List Value → Out) : (asTup v f).setH H' = asTup v fun a => (f a).setH H' := by cases v <;> rfl
theorem setH_asStr (v : Value) (f : ByteArray → Out) : (asStr v f).setH H' = asStr v fun a => (f a).setH H' := by cases v <;> rfl
theorem setH_slT (v : TD) (f : TypeId → Out) : (slT v f).setH H' = slT v fun a => (f a).setH H' := by cases v <;> rfl
theorem setH_stT (v : TD) (f : List (Nat × TypeId) → Out) : (stT v f).setH H' = stT v fun a => (f a).setH H' := by cases v <;> rfl
theorem setH_oI (t : T) (x : Option Operand) (f : Option Int → Out) : (oI t x f).setH H' = oI t x fun a => (f a).setH H' := by
  unfold oI; split
  · rfl
  · rw [setH_bindO]; congr 1; funext a; rw [setH_asI]
theorem setH_ite (c : Prop) [Decidable c] (a b : Out) : (if c then a else b).setH H' = if c then a.setH H' else b.setH H' := by split <;> rfl
theorem setH_need (p : Prop) (o : Out) : (Out.need p o).setH H' = .need p (o.setH H') := (rfl)
theorem setH_val (v : Value) (H : AH) : (Out.val v H).setH H' = .val v H' := (rfl)
theorem setH_okNil (v : Value) (o : Out) : (okNil v o).setH H' = okNil v (o.setH H') := by unfold okNil; split <;> rfl
theorem setH_binI (op : BinOp) (k : IntKind) (a b : Int) (H : AH) : (binI op k a b H).setH H' = binI op k a b H' := by unfold binI; split <;> rfl
theorem setH_binE (op : BinOp) (d : TD) (a b : Value) (H : AH) : (binE op d a b H).setH H' = binE op d a b H' := by
  unfold binE; split
  · split
    · rfl
    · rfl
    · rw [setH_need, setH_binI]
  · split <;> rfl
  · split <;> rfl
  · split <;> rfl
  · split <;> rfl
  · rfl
theorem setH_unE (op : UnOp) (a : Value) (H : AH) : (unE op a H).setH H' = unE op a H' := by unfold unE; split <;> rfl
theorem setH_convE (s d : TD) (a : Value) (H : AH) : (convE s d a H).setH H' = convE s d a H' := by unfold convE; split <;> rfl
theorem setH_sliceE (E : TI) (v : Value) (lo hi mx : Option Int) (H : AH) : (sliceE E v lo hi mx H).setH H' = sliceE E v lo hi mx H' := by
  unfold sliceE; split
  · rfl
  · rw [setH_asSl]; congr 1
    funext a b c d e
    cases c with
    | none => rfl
    | some z => cases mx <;> rfl
end

/-- Operations that leave the heap and do not look at it. -/
def blindOp : Op → Bool
  | .move _ | .assign _ | .pick .. | .build .. | .nilCheck _ | .binOp .. | .unOp .. | .convert .. | .makeFunc .. | .slice .. | .fieldAddr .. | .field .. | .indexAddr .. | .index .. | .extract .. => true
  | .call { callee := .builtin .len, .. } => true
  | _ => false

def quietOp : Op → Bool
  | .load .. => true
  | op => blindOp op

theorem blind_setH (P : Program) (t : T) (H H' : AH) (op : Op) (h : blindOp op = true) : evalOp P t H' op = (evalOp P t H op).setH H' := by
  cases op with
  | call c =>
    obtain ⟨callee, args, ats⟩ := c
    cases callee with
    | builtin b =>
      cases b <;> simp [blindOp] at h
      simp only [evalOp, setH_bindO]
      congr 1; funext vs
      unfold builtE
      split
      · rw [setH_bindO]; congr 1; funext I
        split
        · rfl
        · rw [setH_asSl]; rfl
        · rw [setH_asStr]; rfl
        · rfl
      · contradiction
      · rfl
    | value f => simp [blindOp] at h
    | invoke r m => simp [blindOp] at h
  | slice ty x lo hi mx =>
    simp only [evalOp, setH_bindO]
    congr 1; funext I; congr 1; funext v
    split
    · simp only [setH_bindO, setH_oI, setH_sliceE]
    · simp only [setH_ite, setH_asStr, setH_oI, setH_need, setH_val]; rfl
    · simp only [setH_bindO, setH_ite, setH_asP, setH_oI, setH_need, setH_val]; rfl
    · rfl
  | indexAddr ty x ix =>
    simp only [evalOp, setH_bindO, setH_asI]
    congr 1; funext I; congr 1; funext v; congr 1; funext vi; congr 1; funext k n
    split
    · simp only [setH_bindO, setH_asSl, setH_need, setH_val]; rfl
    · simp only [setH_bindO, setH_asP, setH_need, setH_val]
    · rfl
  | index ty x ix =>
    simp only [evalOp, setH_bindO, setH_asI]
    congr 1; funext I; congr 1; funext v; congr 1; funext vi; congr 1; funext k n
    split
    · simp only [setH_bindO, setH_asAgg, setH_need, setH_ite, setH_val]
    · simp only [setH_asStr, setH_need, setH_val]
    · rfl
  | move x => simp only [evalOp, setH_bindO, setH_val]
  | assign x => simp only [evalOp, setH_bindO, setH_val]
  | pick c a b => simp only [evalOp, setH_bindO, setH_asB, setH_val]
  | build ty ps => simp only [evalOp, setH_bindO, setH_val]
  | nilCheck x => simp only [evalOp, setH_bindO, setH_okNil, setH_val]
  | binOp op ty x y e2 => simp only [evalOp, setH_bindO, setH_binE]
  | unOp op e x => simp only [evalOp, setH_bindO, setH_unE]
  | convert s d x => simp only [evalOp, setH_bindO, setH_convE]
  | makeFunc fn f c => simp only [evalOp, setH_ite, setH_bindO, setH_need, setH_val]; rfl
  | fieldAddr ty x f => simp only [evalOp, setH_bindO, setH_stT, setH_asP, setH_need, setH_val]
  | field ty x f => simp only [evalOp, setH_bindO, setH_stT, setH_asAgg, setH_ite, setH_need, setH_val]
  | extract x i => simp only [evalOp, setH_bindO, setH_asTup, setH_val]
  | _ => simp [blindOp] at h

theorem runOut_mono {P : Program} {H : AH} {K K' : Value → AH → Prop} (h : ∀ v H', K v H' → K' v H') : ∀ out, runOut P H out K → runOut P H out K'
  | .val v H', hk => h v H' hk
  | .unit H', hk => h _ H' hk
  | .call f args, hk => ⟨hk.1, fun base ρ w args' R L => (hk.2 base ρ w args' R L).mono fun e w' ⟨v', v, H2, ρ2, a, b, c⟩ => ⟨v', v, H2, ρ2, a, h v H2 b, c⟩⟩
  | .need p o, hk => ⟨hk.1, runOut_mono h o hk.2⟩
  | .stuck, hk => hk.elim

/-- An answer that leaves the heap: a value, perhaps under conditions. -/
def Sh (H : AH) : Out → Prop
  | .val _ H' => H' = H
  | .need _ o => Sh H o
  | .stuck => True
  | .unit _ => False
  | .call _ _ => False

def yl : Out → Value → Prop
  | .val v' _, v => v' = v
  | .need p o, v => p ∧ yl o v
  | _, _ => False

section
variable {H : AH}
theorem Sh.bind {α : Type} {x : Option α} {f : α → Out} (h : ∀ a, Sh H (f a)) : Sh H (bindO x f) := by cases x; trivial; exact h _
theorem Sh.int {v : Value} {f : IntKind → Int → Out} (h : ∀ k n, Sh H (f k n)) : Sh H (asI v f) := by unfold asI; split; exact h _ _; trivial
theorem Sh.bool {v : Value} {f : Bool → Out} (h : ∀ b, Sh H (f b)) : Sh H (asB v f) := by unfold asB; split; exact h _; trivial
theorem Sh.ptr {v : Value} {f : Nat → Nat → Out} (h : ∀ i o, Sh H (f i o)) : Sh H (asP v f) := by unfold asP; split; exact h _ _; trivial
theorem Sh.sl {v : Value} {n0 : Out} {f : Nat → Nat → Option Nat → Nat → Nat → Out} (h0 : Sh H n0) (h : ∀ a b c d e, Sh H (f a b c d e)) : Sh H (asSl v n0 f) := by
  unfold asSl; split; exact h0; exact h _ _ _ _ _; trivial
theorem Sh.agg {v : Value} {f : List Value → Out} (h : ∀ c, Sh H (f c)) : Sh H (asAgg v f) := by unfold asAgg; split; exact h _; trivial
theorem Sh.tup {v : Value} {f : List Value → Out} (h : ∀ c, Sh H (f c)) : Sh H (asTup v f) := by unfold asTup; split; exact h _; trivial
theorem Sh.str {v : Value} {f : ByteArray → Out} (h : ∀ c, Sh H (f c)) : Sh H (asStr v f) := by unfold asStr; split; exact h _; trivial
theorem Sh.slt {v : TD} {f : TypeId → Out} (h : ∀ c, Sh H (f c)) : Sh H (slT v f) := by unfold slT; split; exact h _; trivial
theorem Sh.stt {v : TD} {f : List (Nat × TypeId) → Out} (h : ∀ c, Sh H (f c)) : Sh H (stT v f) := by unfold stT; split; exact h _; trivial
theorem Sh.oi {t : T} {x : Option Operand} {f : Option Int → Out} (h : ∀ c, Sh H (f c)) : Sh H (oI t x f) := by
  unfold oI; split; exact h _; exact .bind fun _ => .int fun _ _ => h _
theorem Sh.ite {c : Prop} [Decidable c] {a b : Out} (h : Sh H a) (k : Sh H b) : Sh H (if c then a else b) := by split; exact h; exact k

theorem quiet_sh (P : Program) (t : T) (op : Op) (h : quietOp op = true) : Sh H (evalOp P t H op) := by
  cases op with
  | call c =>
    obtain ⟨callee, args, ats⟩ := c
    cases callee with
    | builtin b =>
      cases b <;> simp [quietOp, blindOp] at h
      simp only [evalOp]
      refine .bind fun vs => ?_
      unfold builtE
      split
      · refine .bind fun I => ?_
        split
        · rfl
        · exact .sl rfl fun _ _ _ _ _ => rfl
        · exact .str fun _ => rfl
        · trivial
      · contradiction
      · trivial
    | value f => simp [quietOp, blindOp] at h
    | invoke r m => simp [quietOp, blindOp] at h
  | slice ty x lo hi mx =>
    simp only [evalOp]
    refine .bind fun I => .bind fun v => ?_
    split
    · refine .bind fun E => .oi fun _ => .oi fun _ => .oi fun mm => ?_
      unfold sliceE
      refine .ite trivial (.sl rfl fun a b c d e => ?_)
      cases c with
      | none => rfl
      | some z => cases mm <;> rfl
    · exact .ite (.str fun _ => .oi fun _ => .oi fun _ => rfl) trivial
    · exact .bind fun _ => .ite (.ptr fun _ _ => .oi fun _ => .oi fun _ => rfl) trivial
    · trivial
  | indexAddr ty x ix =>
    simp only [evalOp]
    refine .bind fun I => .bind fun v => .bind fun _ => .int fun _ _ => ?_
    split
    · exact .bind fun _ => .sl trivial fun _ _ _ _ _ => rfl
    · exact .bind fun _ => .ptr fun _ _ => rfl
    · trivial
  | index ty x ix =>
    simp only [evalOp]
    refine .bind fun I => .bind fun v => .bind fun _ => .int fun _ _ => ?_
    split
    · refine .bind fun _ => .agg fun _ => ?_
      change Sh H (if _ then _ else _)
      refine .ite ?_ (.bind fun _ => ?_)
      · rfl
      · rfl
    · exact .str fun _ => rfl
    · trivial
  | move x => exact .bind fun _ => rfl
  | assign x => exact .bind fun _ => rfl
  | pick c a b => exact .bind fun _ => .bind fun _ => .bind fun _ => .bool fun _ => rfl
  | build ty ps => exact .bind fun _ => .bind fun _ => .bind fun _ => .bind fun _ => rfl
  | nilCheck x => refine .bind fun _ => ?_; unfold okNil; split <;> first | rfl | trivial
  | binOp op ty x y e2 =>
    refine .bind fun _ => .bind fun _ => .bind fun _ => ?_
    unfold binE
    split
    · split
      · rfl
      · rfl
      · unfold binI; split <;> first | rfl | trivial
    · split <;> first | rfl | trivial
    · split <;> first | rfl | trivial
    · split <;> first | rfl | trivial
    · split <;> first | rfl | trivial
    · trivial
  | unOp op e x => refine .bind fun _ => ?_; unfold unE; split <;> first | rfl | trivial
  | convert s d x => refine .bind fun _ => .bind fun _ => .bind fun _ => ?_; unfold convE; split <;> first | rfl | trivial
  | makeFunc fn f c => simp only [evalOp]; exact .ite (.bind fun _ => rfl) trivial
  | fieldAddr ty x f => exact .bind fun _ => .stt fun _ => .bind fun _ => .bind fun _ => .bind fun _ => .ptr fun _ _ => rfl
  | field ty x f => exact .bind fun _ => .stt fun _ => .bind fun _ => .bind fun _ => .bind fun _ => .agg fun _ => .ite rfl (.bind fun _ => rfl)
  | extract x i => exact .bind fun _ => .tup fun _ => .bind fun _ => rfl
  | load ty a => exact .bind fun _ => .bind fun _ => .ptr fun _ _ => .bind fun _ => .ite rfl (.bind fun _ => rfl)
  | _ => simp [quietOp, blindOp] at h

theorem Sh.yl {P : Program} {K : Value → AH → Prop} : ∀ out, Sh H out → runOut P H out K → ∃ v, Abs.yl out v ∧ K v H
  | .val v H', hs, hk => ⟨v, rfl, by have : H' = H := hs; subst this; exact hk⟩
  | .need p o, hs, hk => let ⟨v, a, b⟩ := Sh.yl o hs hk.2; ⟨v, ⟨hk.1, a⟩, b⟩
  | .stuck, _, hk => hk.elim
  | .unit _, hs, _ => hs.elim
  | .call _ _, hs, _ => hs.elim

theorem yl_run {P : Program} {K : Value → AH → Prop} {v : Value} : ∀ out, Sh H out → Abs.yl out v → K v H → runOut P H out K
  | .val u H', hs, hy, hk => by
    have e1 : H' = H := hs; have e2 : u = v := hy; subst e1; subst e2; exact hk
  | .need p o, hs, hy, hk => ⟨hy.1, yl_run o hs hy.2 hk⟩
  | .stuck, _, hy, _ => hy.elim
  | .unit _, hs, _, _ => hs.elim
  | .call _ _, hs, _, _ => hs.elim

theorem yl_setH {H' : AH} {v : Value} : ∀ out, Abs.yl out v → Abs.yl (out.setH H') v
  | .val _ _, h => h
  | .need p o, h => ⟨h.1, yl_setH o h.2⟩
end

/-- A quiet operation says over a later heap what it said. -/
theorem quiet_later {P : Program} {t : T} {H H' : AH} {op : Op} {v : Value} (hq : quietOp op = true) (hle : blindOp op = true ∨ LE H H') (h : yl (evalOp P t H op) v) : yl (evalOp P t H' op) v := by
  by_cases hb : blindOp op = true
  · rw [blind_setH P t H H' op hb]; exact yl_setH _ h
  · have hle2 : LE H H' := hle.resolve_left hb
    clear hle
    cases op with
    | load ty a =>
      simp only [evalOp] at h ⊢
      cases hI : ti P ty with
      | none => simp only [hI] at h; exact h.elim
      | some I =>
        simp only [hI, bindO_some] at h ⊢
        cases hv : evo t a with
        | none => simp only [hv] at h; exact h.elim
        | some u =>
          simp only [hv, bindO_some] at h ⊢
          unfold asP at h ⊢
          split at h
          · rename_i i o
            cases hr : H.row i with
            | none => simp only [hr] at h; exact h.elim
            | some r =>
              have hr2 := hle2.row i r hr
              simp only [hr, hr2, bindO_some] at h ⊢
              split at h
              · rename_i hd; rw [if_pos hd]; exact h
              · rename_i hd
                rw [if_neg hd]
                cases hx : r.cells[o]? with
                | none => simp only [hx] at h; exact h.elim
                | some x => simp only [hx, bindO_some] at h ⊢; exact h
          · exact h.elim
    | _ => simp_all [quietOp, blindOp]

/-! ### Any order -/
def aStep (P : Program) (all : List Oper) (i : Nat) (t : T) (H : AH) (K : T → AH → Prop) : Prop :=
  match all[i]? with
  | none => K t H
  | some o =>
    match o.guard with
    | none => runOut P H (evalOp P t H o.op) fun v H' => K (updO t o.dst v) H'
    | some g => condW (gv all t g.1) g.2 (runOut P H (evalOp P t H o.op) fun v H' => K (updO t o.dst v) H') (K (updO t o.dst undef) H)

/-- Does j wait for q, at once or through others? -/
def befB (ops : Array Oper) (q : Nat) : Nat → Nat → Bool
  | 0, _ => false
  | n + 1, j => match ops[j]? with
    | some o => o.after.toList.any fun e => Region.binds .any e && (e.on == q || befB ops q n e.on)
    | none => false

/-- No reader of the heap can lag behind j. -/
def sinkB (ops : Array Oper) (j : Nat) : Bool :=
  (List.range ops.size).all fun q => q == j || befB ops q ops.size j || befB ops j ops.size q || (match ops[q]? with | some o => blindOp o.op || !quietOp o.op | none => true)

def AAny (P : Program) (ops : Array Oper) (Q : T → AH → Prop) : Nat → Array Bool → T → AH → Prop
  | 0, listed, t, H => Region.ready .any ops listed = [] ∧ Q t H
  | f + 1, listed, t, H => (Region.ready .any ops listed = [] → Q t H) ∧
    ∀ i ∈ Region.ready .any ops listed, aStep P ops.toList i t H fun t' H' => (sinkB ops i = true ∨ LE H H') ∧ AAny P ops Q f (listed.setIfInBounds i true) t' H'

def Closed (ops : Array Oper) (listed : Array Bool) : Prop :=
  listed.size = ops.size ∧ ∀ (j : Nat) oj, ops[j]? = some oj → listed.getD j false = true → ∀ e ∈ oj.after, Region.binds .any e = true → listed.getD e.on false = true

theorem Closed.bef {ops : Array Oper} {listed : Array Bool} (h : Closed ops listed) {q : Nat} : ∀ (n j : Nat) oj, ops[j]? = some oj → (∀ e ∈ oj.after, Region.binds .any e = true → listed.getD e.on false = true) →
    befB ops q n j = true → listed.getD q false = true
  | 0, j, oj, _, _, hb => by simp [befB] at hb
  | n + 1, j, oj, hj, hall, hb => by
    simp only [befB, hj, List.any_eq_true, Bool.and_eq_true, Bool.or_eq_true, beq_iff_eq] at hb
    obtain ⟨e, he, hbind, hq⟩ := hb
    have hl := hall e (by simpa using he) hbind
    rcases hq with hq | hq
    · rw [← hq]; exact hl
    · cases ho : ops[e.on]? with
      | none => cases n <;> simp [befB, ho] at hq
      | some oe => exact Closed.bef h n e.on oe ho (fun e2 he2 hb2 => h.2 e.on oe ho hl e2 he2 hb2) hq

theorem ready_iff {ops : Array Oper} {listed : Array Bool} {i : Nat} : i ∈ Region.ready .any ops listed ↔ listed.getD i true = false ∧ ∃ o, ops[i]? = some o ∧ ∀ e ∈ o.after, Region.binds .any e = true → listed.getD e.on false = true := mem_ready

/-- The temporaries of two operations keep out of each other's way. -/
theorem evo_upd {t : T} {d : Nat} {v : Value} {x : Operand} (h : x ≠ .tmp d) : evo (upd t d v) x = evo t x := by
  cases x with
  | tmp i =>
    have : i ≠ d := fun e => h (by rw [e])
    simp [evo, upd, this]
  | _ => rfl

theorem evs_upd {t : T} {d : Nat} {v : Value} : ∀ {xs : List Operand}, (∀ x ∈ xs, x ≠ .tmp d) → evs (upd t d v) xs = evs t xs
  | [], _ => rfl
  | x :: xs, h => by
    simp only [evs]
    rw [evo_upd (h x (by simp)), evs_upd (fun y hy => h y (by simp [hy]))]

theorem evp_upd {t : T} {d : Nat} {v : Value} : ∀ {xs : List (Nat × Operand)}, (∀ p ∈ xs, p.2 ≠ .tmp d) → evp (upd t d v) xs = evp t xs
  | [], _ => rfl
  | (i, x) :: xs, h => by
    simp only [evp]
    rw [evo_upd (h (i, x) (by simp)), evp_upd (fun y hy => h y (by simp [hy]))]

theorem oI_upd {t : T} {d : Nat} {v : Value} {x : Option Operand} {f : Option Int → Out} (h : ∀ y, x = some y → y ≠ .tmp d) : oI (upd t d v) x f = oI t x f := by
  cases x with
  | none => rfl
  | some y => simp only [oI]; rw [evo_upd (h y rfl)]

theorem evalOp_upd {P : Program} {t : T} {H : AH} {d : Nat} {v : Value} (op : Op) (h : ∀ x ∈ op.operands, x ≠ .tmp d) : evalOp P (upd t d v) H op = evalOp P t H op := by
  cases op with
  | call c =>
    obtain ⟨callee, args, ats⟩ := c
    have ha : ∀ x ∈ args.toList, x ≠ .tmp d := fun x hx => h x (by simp [Op.operands, Call.operands, Array.mem_def.2 hx])
    cases callee with
    | value f =>
      have hf : f ≠ .tmp d := h f (by simp [Op.operands, Call.operands])
      simp only [evalOp, evo_upd hf, evs_upd ha]
    | builtin b => simp only [evalOp, evs_upd ha]
    | invoke r m => rfl
  | build ty ps =>
    have hp : ∀ p ∈ ps.toList, p.2 ≠ .tmp d := fun p hp => h p.2 (by simp only [Op.operands]; simp; exact ⟨p.1, by simpa using hp⟩)
    simp only [evalOp, evp_upd hp]
  | buildSlice ty n ps =>
    have hp : ∀ p ∈ ps.toList, p.2 ≠ .tmp d := fun p hp => h p.2 (by simp only [Op.operands]; simp; exact ⟨p.1, by simpa using hp⟩)
    simp only [evalOp, evp_upd hp]
  | makeFunc fn f c =>
    have hc : ∀ x ∈ c.toList, x ≠ .tmp d := fun x hx => h x (by simp [Op.operands, Array.mem_def.2 hx])
    simp only [evalOp, evs_upd hc]
  | slice ty x lo hi mx =>
    have hx : x ≠ .tmp d := h x (by simp [Op.operands])
    have hl : ∀ y, lo = some y → y ≠ .tmp d := fun y e => h y (by subst e; simp [Op.operands])
    have hh : ∀ y, hi = some y → y ≠ .tmp d := fun y e => h y (by subst e; simp [Op.operands])
    have hm : ∀ y, mx = some y → y ≠ .tmp d := fun y e => h y (by subst e; simp [Op.operands])
    simp only [evalOp, evo_upd hx, oI_upd hl, oI_upd hh, oI_upd hm]
  | pick c a b =>
    simp only [evalOp]
    rw [evo_upd (h c (by simp [Op.operands])), evo_upd (h a (by simp [Op.operands])), evo_upd (h b (by simp [Op.operands]))]
  | move x => simp only [evalOp]; rw [evo_upd (h x (by simp [Op.operands]))]
  | assign x => simp only [evalOp]; rw [evo_upd (h x (by simp [Op.operands]))]
  | alloc e => rfl
  | box e x => simp only [evalOp]; rw [evo_upd (h x (by simp [Op.operands]))]
  | load e x => simp only [evalOp]; rw [evo_upd (h x (by simp [Op.operands]))]
  | store e a x => simp only [evalOp]; rw [evo_upd (h a (by simp [Op.operands])), evo_upd (h x (by simp [Op.operands]))]
  | nilCheck x => simp only [evalOp]; rw [evo_upd (h x (by simp [Op.operands]))]
  | binOp op e x y e2 => simp only [evalOp]; rw [evo_upd (h x (by simp [Op.operands])), evo_upd (h y (by simp [Op.operands]))]
  | unOp op e x => simp only [evalOp]; rw [evo_upd (h x (by simp [Op.operands]))]
  | convert s e x => simp only [evalOp]; rw [evo_upd (h x (by simp [Op.operands]))]
  | makeSlice e l c => simp only [evalOp]; rw [evo_upd (h l (by simp [Op.operands])), evo_upd (h c (by simp [Op.operands]))]
  | fieldAddr e x f => simp only [evalOp]; rw [evo_upd (h x (by simp [Op.operands]))]
  | field e x f => simp only [evalOp]; rw [evo_upd (h x (by simp [Op.operands]))]
  | indexAddr e x i => simp only [evalOp]; rw [evo_upd (h x (by simp [Op.operands])), evo_upd (h i (by simp [Op.operands]))]
  | index e x i => simp only [evalOp]; rw [evo_upd (h x (by simp [Op.operands])), evo_upd (h i (by simp [Op.operands]))]
  | extract x i => simp only [evalOp]; rw [evo_upd (h x (by simp [Op.operands]))]
  | _ => rfl

theorem upd_comm (t : T) {i j : Nat} (u v : Value) (h : i ≠ j) : upd (upd t i u) j v = upd (upd t j v) i u := by
  funext k
  simp only [upd]
  by_cases h1 : k = j
  · subst h1
    rw [if_pos rfl, if_neg (fun e => h e.symm), if_pos rfl]
  · rw [if_neg h1]
    by_cases h2 : k = i
    · rw [if_pos h2, if_pos h2]
    · rw [if_neg h2, if_neg h2, if_neg h1]

theorem updO_comm (t : T) {x y : Option Nat} (u v : Value) (h : ∀ d, x = some d → y ≠ some d) : updO (updO t x u) y v = updO (updO t y v) x u := by
  cases x with
  | none => rfl
  | some i =>
    cases y with
    | none => rfl
    | some j => exact upd_comm t u v (fun e => h i rfl (by rw [e]))

theorem evalOp_updO {P : Program} {t : T} {H : AH} {d : Option Nat} {v : Value} {ops : Array Oper} (o : Oper) (h : ∀ i, d = some i → i ∉ o.looksAt ops) : evalOp P (updO t d v) H o.op = evalOp P t H o.op := by
  cases d with
  | none => rfl
  | some i =>
    refine evalOp_upd o.op fun x hx e => h i rfl ?_
    subst e
    exact List.mem_append_left _ (List.mem_filterMap.2 ⟨.tmp i, by simpa using hx, rfl⟩)

theorem gv_updO {ops : Array Oper} {t : T} {d : Option Nat} {v : Value} (o : Oper) (h : ∀ i, d = some i → i ∉ o.looksAt ops) {g : Nat × Bool} (hg : o.guard = some g) : gv ops.toList (updO t d v) g.1 = gv ops.toList t g.1 := by
  cases d with
  | none => rfl
  | some i =>
    unfold gv
    have e : ops.toList[g.1]? = ops[g.1]? := by simp
    rw [e]
    cases hd : (ops[g.1]?).bind (·.dst) with
    | none => rfl
    | some k =>
      have hne : k ≠ i := fun e => h i rfl (by
        subst e
        refine List.mem_append_right _ ?_
        obtain ⟨j, want⟩ := g
        simp only [hg]
        rw [hd]; simp)
      simp [updO, upd, hne]

/-- The answer of a quiet operation at hand: its guard looked at, its conditions met. -/
def aYield (P : Program) (ops : Array Oper) (o : Oper) (t : T) (H : AH) (v : Value) : Prop :=
  match o.guard with
  | none => yl (evalOp P t H o.op) v
  | some g => condW (gv ops.toList t g.1) g.2 (yl (evalOp P t H o.op) v) (v = undef)

theorem condW_mono {v : Value} {w : Bool} {A B A' B' : Prop} (h : condW v w A B) (ha : A → A') (hb : B → B') : condW v w A' B' := by
  unfold condW at *
  split at h
  · split at h
    · rename_i h0; rw [if_pos h0]; exact ha h
    · rename_i h0; rw [if_neg h0]; exact hb h
  · split at h
    · rename_i h0; rw [if_pos h0]; exact hb h
    · exact h.elim
  · exact h.elim

theorem aYield.later {P : Program} {ops : Array Oper} {o : Oper} {t : T} {H H' : AH} {v : Value} (hq : quietOp o.op = true) (hle : blindOp o.op = true ∨ LE H H') (h : aYield P ops o t H v) : aYield P ops o t H' v := by
  unfold aYield at *
  split at h
  · rename_i hg; exact quiet_later hq hle h
  · rename_i g hg; exact condW_mono h (quiet_later hq hle) id

theorem aYield.upd {P : Program} {ops : Array Oper} {o : Oper} {t : T} {H : AH} {v u : Value} {d : Option Nat} (h : ∀ i, d = some i → i ∉ o.looksAt ops) (k : aYield P ops o t H v) : aYield P ops o (updO t d u) H v := by
  unfold aYield at *
  split at k
  · rename_i hg; rw [evalOp_updO o h]; exact k
  · rename_i g hg; rw [evalOp_updO o h, gv_updO o h hg]; exact k

theorem aYield.step {P : Program} {ops : Array Oper} {i : Nat} {o : Oper} {t : T} {H : AH} {v : Value} {K : T → AH → Prop} (ho : ops[i]? = some o) (hq : quietOp o.op = true) (h : aYield P ops o t H v) (hK : K (updO t o.dst v) H) : aStep P ops.toList i t H K := by
  unfold aStep
  have e : ops.toList[i]? = some o := by simpa using ho
  rw [e]
  unfold aYield at h
  cases hg : o.guard with
  | none =>
    simp only [hg] at h ⊢
    exact yl_run _ (quiet_sh P t o.op hq) h hK
  | some g =>
    simp only [hg] at h ⊢
    refine condW_mono h (fun hy => yl_run _ (quiet_sh P t o.op hq) hy hK) (fun hv => ?_)
    subst hv; exact hK

theorem aStep_mono {P : Program} {all : List Oper} {i : Nat} {t : T} {H : AH} {K K' : T → AH → Prop} (h : aStep P all i t H K) (hk : ∀ t' H', K t' H' → K' t' H') : aStep P all i t H K' := by
  unfold aStep at *
  split at h
  · exact hk _ _ h
  · split at h
    · exact runOut_mono (fun v H' => hk _ _) _ h
    · exact condW_mono h (runOut_mono (fun v H' => hk _ _) _) (hk _ _)

/-- Another operation's step, the quiet one's answer being there already, or not yet. -/
theorem aStep_put {P : Program} {ops : Array Oper} {j : Nat} {oi oj : Oper} {t : T} {H : AH} {v : Value} {K : T → AH → Prop} (hj : ops[j]? = some oj) (hap : oi.apart ops oj = true)
    (h : aStep P ops.toList j (updO t oi.dst v) H K) : aStep P ops.toList j t H fun t' H' => (∃ u, t' = updO t oj.dst u) ∧ K (updO t' oi.dst v) H' := by
  obtain ⟨h1, h2, h3⟩ := Oper.apart_spec hap
  unfold aStep at *
  have e : ops.toList[j]? = some oj := by simpa using hj
  rw [e] at h ⊢
  have fin : ∀ u H', K (updO (updO t oi.dst v) oj.dst u) H' → (∃ u', updO t oj.dst u = updO t oj.dst u') ∧ K (updO (updO t oj.dst u) oi.dst v) H' := fun u H' hk =>
    ⟨⟨u, rfl⟩, by rw [← updO_comm t v u h2]; exact hk⟩
  cases hg : oj.guard with
  | none =>
    simp only [hg] at h ⊢
    rw [evalOp_updO oj h1] at h
    exact runOut_mono (fun u H' => fin u H') _ h
  | some g =>
    simp only [hg] at h ⊢
    rw [evalOp_updO oj h1, gv_updO oj h1 hg] at h
    exact condW_mono h (runOut_mono (fun u H' => fin u H') _) (fin undef H)

theorem getD_unlisted {listed : Array Bool} {i : Nat} (h : listed.getD i true = false) : listed.getD i false = false := by
  rcases Nat.lt_or_ge i listed.size with h' | h'
  · simp [h'] at h ⊢; exact h
  · simp [Array.getElem?_eq_none h'] at h

theorem sinkB_spec {ops : Array Oper} {j q : Nat} {oq : Oper} (h : sinkB ops j = true) (hq : ops[q]? = some oq) (hne : q ≠ j) (hr : quietOp oq.op = true) (hb : blindOp oq.op = false) :
    befB ops q ops.size j = true ∨ befB ops j ops.size q = true := by
  unfold sinkB at h
  have hlt : q < ops.size := (Array.getElem?_eq_some_iff.1 hq).1
  have := List.all_eq_true.1 h q (List.mem_range.2 hlt)
  simp only [hq, hr, hb, Bool.not_true, Bool.or_false, Bool.or_eq_true, beq_iff_eq] at this
  rcases this with (h1 | h1) | h1
  · exact absurd h1 hne
  · exact .inl h1
  · exact .inr h1

theorem getD_set_ne' {l : Array Bool} {i j : Nat} (d : Bool) (h : i ≠ j) : (l.setIfInBounds i true).getD j d = l.getD j d := getD_set_ne d h

theorem Closed.set {ops : Array Oper} {listed : Array Bool} {i : Nat} (h : Closed ops listed) (hi : i ∈ Region.ready .any ops listed) : Closed ops (listed.setIfInBounds i true) := by
  obtain ⟨_, oi, hoi, hall⟩ := ready_iff.1 hi
  refine ⟨by simpa using h.1, fun j oj hj hl e he hb => ?_⟩
  by_cases hij : i = j
  · subst hij
    have : oj = oi := Option.some.inj (hj.symm.trans hoi)
    subst this
    exact getD_set_true (hall e he hb)
  · rw [getD_set_ne false hij] at hl
    exact getD_set_true (h.2 j oj hj hl e he hb)

/-- A quiet operation that may come up may be taken first. -/
theorem AAny_first {P : Program} {ops : Array Oper} {Q : T → AH → Prop} {q : Nat} {oq : Oper} {v : Value} (hoq : ops[q]? = some oq) (hqt : quietOp oq.op = true) :
    ∀ (f : Nat) (listed : Array Bool) (t : T) (H : AH), Closed ops listed →
      (∀ j oj, ops[j]? = some oj → j ≠ q → listed.getD j true = false → (∀ e ∈ oj.after, Region.binds .any e = true → e.on ≠ q) → oq.apart ops oj = true) →
      q ∈ Region.ready .any ops listed → aYield P ops oq t H v → AAny P ops Q f (listed.setIfInBounds q true) (updO t oq.dst v) H → AAny P ops Q (f + 1) listed t H := by
  intro f
  induction f with
  | zero =>
    intro listed t H hc _ hr hy hA
    refine ⟨fun h => (by rw [h] at hr; cases hr), fun j hj => ?_⟩
    by_cases hjq : j = q
    · subst hjq; exact hy.step hoq hqt ⟨.inr (LE.refl _), hA⟩
    · have := ready_mono hj hjq
      rw [hA.1] at this
      cases this
  | succ f ih =>
    intro listed t H hc hfree hr hy hA
    refine ⟨fun h => (by rw [h] at hr; cases hr), fun j hj => ?_⟩
    by_cases hjq : j = q
    · subst hjq; exact hy.step hoq hqt ⟨.inr (LE.refl _), hA⟩
    · have h1 := hA.2 j (ready_mono hj hjq)
      obtain ⟨hjun, oj, hoj, hall⟩ := ready_iff.1 hj
      obtain ⟨hqun, oq', hoq', hallq⟩ := ready_iff.1 hr
      have : oq' = oq := Option.some.inj (hoq'.symm.trans hoq)
      subst this
      have hqf : listed.getD q false = false := getD_unlisted hqun
      have hjf : listed.getD j false = false := getD_unlisted hjun
      have hnot : ∀ e ∈ oj.after, Region.binds .any e = true → e.on ≠ q := fun e he hb heq => by
        have h1 := hall e he hb
        rw [heq, hqf] at h1; cases h1
      have hap := hfree j oj hoj hjq hjun hnot
      obtain ⟨_, _, h3⟩ := Oper.apart_spec hap
      have h2 := aStep_put hoj hap h1
      refine aStep_mono h2 fun t' H' hk => ?_
      obtain ⟨⟨u, rfl⟩, hs, hk⟩ := hk
      refine ⟨hs, ih (listed.setIfInBounds j true) _ H' (hc.set hj) ?_ (ready_mono hr (Ne.symm hjq)) ?_ ?_⟩
      · intro k ok hk2 hkq hun hno
        refine hfree k ok hk2 hkq ?_ hno
        by_cases hjk : j = k
        · subst hjk; exact hjun
        · rw [getD_set_ne true hjk] at hun; exact hun
      · refine (hy.later (H' := H') hqt ?_).upd h3
        by_cases hb : blindOp oq'.op = true
        · exact .inl hb
        · right
          rcases hs with hs | hs
          · rcases sinkB_spec hs hoq (Ne.symm hjq) hqt (by simpa using hb) with hbf | hbf
            · have := hc.bef ops.size j oj hoj hall hbf
              rw [hqf] at this; cases this
            · have := hc.bef ops.size q oq' hoq hallq hbf
              rw [hjf] at this; cases this
          · exact hs
      · rw [Array.setIfInBounds_comm _ _ hjq]
        exact hk

/-- An order that serves: quiet operations as they may come up; any other only where nothing else may. -/
def okOrd (ops : Array Oper) : List Nat → Array Bool → Bool
  | [], listed => (Region.ready .any ops listed).isEmpty
  | i :: is, listed =>
    (match ops[i]? with
     | some o => if quietOp o.op = true then (Region.ready .any ops listed).contains i && Region.free .any ops listed i else Region.ready .any ops listed == [i]
     | none => false) && okOrd ops is (listed.setIfInBounds i true)

/-- The operations one behind the other in that order. -/
def awpOrd (P : Program) (ops : Array Oper) (Q : T → AH → Prop) : List Nat → T → AH → Prop
  | [], t, H => Q t H
  | i :: is, t, H =>
    match ops.toList[i]? with
    | none => False
    | some o =>
      if quietOp o.op = true then aStep P ops.toList i t H (awpOrd P ops Q is)
      else aStep P ops.toList i t H fun t' H' => (sinkB ops i = true ∨ LE H H') ∧ awpOrd P ops Q is t' H'

theorem aStep_quiet {P : Program} {ops : Array Oper} {i : Nat} {o : Oper} {t : T} {H : AH} {K : T → AH → Prop} (ho : ops[i]? = some o) (hq : quietOp o.op = true) (h : aStep P ops.toList i t H K) :
    ∃ v, aYield P ops o t H v ∧ K (updO t o.dst v) H := by
  unfold aStep at h
  have e : ops.toList[i]? = some o := by simpa using ho
  rw [e] at h
  unfold aYield
  cases hg : o.guard with
  | none =>
    simp only [hg] at h ⊢
    exact Sh.yl _ (quiet_sh P t o.op hq) h
  | some g =>
    simp only [hg] at h ⊢
    unfold condW at h ⊢
    split at h
    · rename_i b hb
      split at h
      · rename_i hbw
        obtain ⟨v, h1, h2⟩ := Sh.yl _ (quiet_sh P t o.op hq) h
        exact ⟨v, by rw [if_pos hbw]; exact h1, h2⟩
      · rename_i hbw
        exact ⟨undef, by rw [if_neg hbw], h⟩
    · split at h
      · rename_i hz
        exact ⟨undef, by rw [if_pos hz], h⟩
      · exact h.elim
    · exact h.elim

theorem AAny_ord {P : Program} {ops : Array Oper} {Q : T → AH → Prop} : ∀ (is : List Nat) (listed : Array Bool) (t : T) (H : AH) (f : Nat), is.length ≤ f → Closed ops listed → okOrd ops is listed = true → awpOrd P ops Q is t H → AAny P ops Q f listed t H
  | [], listed, t, H, f, _, _, hok, h => by
    have hr : Region.ready .any ops listed = [] := by simpa [okOrd] using hok
    cases f with
    | zero => exact ⟨hr, h⟩
    | succ f => exact ⟨fun _ => h, by rw [hr]; simp⟩
  | i :: is, listed, t, H, 0, hl, _, _, _ => by simp at hl
  | i :: is, listed, t, H, f + 1, hl, hc, hok, h => by
    simp only [okOrd, Bool.and_eq_true] at hok
    obtain ⟨h1, h2⟩ := hok
    unfold awpOrd at h
    cases ho : ops[i]? with
    | none => simp [ho] at h1
    | some o =>
      have e : ops.toList[i]? = some o := by simpa using ho
      simp only [ho] at h1
      rw [e] at h
      simp only at h
      split at h1
      · rename_i hq
        rw [if_pos hq] at h
        simp only [Bool.and_eq_true] at h1
        obtain ⟨hr, hfr⟩ := h1
        have hr' : i ∈ Region.ready .any ops listed := by simpa using hr
        obtain ⟨v, hy, hk⟩ := aStep_quiet ho hq h
        exact AAny_first ho hq f listed t H hc (Region.free_spec ho hfr) hr' hy (AAny_ord is _ _ H f (by simp at hl; omega) (hc.set hr') h2 hk)
      · rename_i hq
        rw [if_neg hq] at h
        have hr : Region.ready .any ops listed = [i] := by simpa using h1
        refine ⟨fun h0 => (by rw [hr] at h0; cases h0), fun j hj => ?_⟩
        have hji : j = i := by rw [hr] at hj; simpa using hj
        subst hji
        exact aStep_mono h fun t' H' hk => ⟨hk.1, AAny_ord is _ t' H' f (by simp at hl; omega) (hc.set hj) h2 hk.2⟩

/-! ### Down to the machine -/
theorem getD_replicate_false' (m j : Nat) : (Array.replicate m false).getD j false = false := by
  rcases Nat.lt_or_ge j m with h | h
  · simp [h]
  · simp [h]

theorem guard_yields {ops : Array Oper} {base : Nat} {ρ : Nat → Nat} {t : T} {H : AH} {tmps : Array Value} {w : World} (hS : St base ρ t H tmps w) (j : Nat) :
    (∀ b, gv ops.toList t j = .bool b → yielded ops tmps j = some b) ∧ (∀ xs, gv ops.toList t j = .tuple xs → yielded ops tmps j = none) := by
  have hget : ops.toList[j]? = ops[j]? := by simp
  constructor
  · intro b hb
    unfold gv at hb
    rw [hget] at hb
    unfold yielded
    cases hd2 : (ops[j]?).bind (·.dst) with
    | none => rw [hd2] at hb; cases hb
    | some d =>
      rw [hd2] at hb
      simp only at hb
      have h1 := hS.2 d
      rw [hb] at h1
      have h2 := h1.bool
      have h3 : tmps[d]? = some (.bool b) := by
        rw [Array.getD_eq_getD_getElem?] at h2
        cases h4 : tmps[d]? with
        | none => rw [h4] at h2; cases h2
        | some u => rw [h4] at h2; simp at h2; rw [h2]
      simp [h3]
  · intro xs hb
    unfold gv at hb
    rw [hget] at hb
    unfold yielded
    cases hd2 : (ops[j]?).bind (·.dst) with
    | none => rfl
    | some d =>
      rw [hd2] at hb
      simp only at hb
      have h1 := hS.2 d
      rw [hb] at h1
      obtain ⟨ys, h2, _⟩ := h1.tuples
      rw [Array.getD_eq_getD_getElem?] at h2
      cases h4 : tmps[d]? with
      | none => simp [h4]
      | some u => rw [h4] at h2; simp at h2; simp [h4, h2]

theorem wp_one {P : Program} {QC : Exit → Act → World → Prop} {base : Nat} {ρ : Nat → Nat} {t : T} {H : AH} {tmps : Array Value} {w : World} (ops : Array Oper) (i : Nat) (o : Oper) (ho : ops[i]? = some o) (hS : St base ρ t H tmps w)
    {hnext : Act → World → Prop} {K : Value → AH → Prop}
    (hgo : ∀ v v' H' ρ' w', K v H' → Rel base ρ' H' w' → Ext base ρ H.next w ρ' H'.next w' → VR ρ' H'.next w' v v' → hnext (Act.put ⟨tmps, []⟩ o.dst v') w')
    (h : match o.guard with | none => runOut P H (evalOp P t H o.op) K | some g => condW (gv ops.toList t g.1) g.2 (runOut P H (evalOp P t H o.op) K) (K undef H)) :
    wpOp P ops QC i hnext ⟨tmps, []⟩ w := by
  have hrun : runOut P H (evalOp P t H o.op) K → o.wp P ⟨tmps, []⟩ w hnext QC := by
    intro hr
    obtain ⟨dst, op, ty, pos, af, gd⟩ := o
    exact runOut_ok hS.1 _ _ QC (fun v v' H' ρ' w' hK R' E hV => hgo v v' H' ρ' w' hK R' E hV) _ (evalOp_ok hS.1 hS.2 op) hr
  have hskip : K undef H → hnext (Act.put ⟨tmps, []⟩ o.dst undef) w := fun hs => hgo undef undef H ρ w hs hS.1 (Ext.refl _ _ _ _) VR.undef
  unfold wpOp
  simp only [ho]
  cases hg : o.guard with
  | none =>
    simp only [hg] at h
    rw [if_pos (by simp [Region.wanted, hg])]
    exact .inl (hrun h)
  | some g =>
    obtain ⟨j, want⟩ := g
    simp only [hg] at h
    have hw : Region.wanted o (yielded ops tmps) = (yielded ops tmps j == some want) := by simp [Region.wanted, hg]
    obtain ⟨hyb, hyn⟩ := guard_yields (ops := ops) hS j
    rw [hw]
    unfold condW at h
    split at h
    · rename_i b hb
      rw [hyb b hb]
      by_cases e : b = want
      · rw [if_pos e] at h; subst e; simp only [beq_self_eq_true, if_true]; exact .inl (hrun h)
      · rw [if_neg e] at h
        rw [if_neg (by simpa using e)]
        exact hskip h
    · rename_i xs hb
      rw [hyn xs hb]
      split at h
      · rw [if_neg (by simp)]
        exact hskip h
      · exact h.elim
    · exact h.elim

theorem AAny_ok {P : Program} {ops : Array Oper} {Q : T → AH → Prop} {QC : Exit → Act → World → Prop} {base : Nat} :
    ∀ (f : Nat) (listed : Array Bool) (t : T) (H : AH) (ρ : Nat → Nat) (w : World) (tmps : Array Value), AAny P ops Q f listed t H → St base ρ t H tmps w → (∀ o ∈ ops.toList, ∀ i, o.dst = some i → i < tmps.size) →
      (∀ t' H' ρ' w' tmps', Q t' H' → St base ρ' t' H' tmps' w' → Ext base ρ H.next w ρ' H'.next w' → tmps'.size = tmps.size → QC .normal ⟨tmps', []⟩ w') →
      wpAny P .any ops QC f listed ⟨tmps, []⟩ w
  | 0, listed, t, H, ρ, w, tmps, h, hS, _, hQ => ⟨h.1, hQ t H ρ w tmps h.2 hS (Ext.refl _ _ _ _) rfl⟩
  | f + 1, listed, t, H, ρ, w, tmps, h, hS, hd, hQ => by
    refine ⟨fun h0 => hQ t H ρ w tmps (h.1 h0) hS (Ext.refl _ _ _ _) rfl, fun i hi => ?_⟩
    have hstep := h.2 i hi
    obtain ⟨_, o, ho, _⟩ := ready_iff.1 hi
    have e : ops.toList[i]? = some o := by simpa using ho
    have hom : o ∈ ops.toList := List.mem_of_getElem? e
    unfold aStep at hstep
    rw [e] at hstep
    simp only at hstep
    have hgo : ∀ v v' H' ρ' w', AAny P ops Q f (listed.setIfInBounds i true) (updO t o.dst v) H' → Rel base ρ' H' w' → Ext base ρ H.next w ρ' H'.next w' → VR ρ' H'.next w' v v' →
        wpAny P .any ops QC f (listed.setIfInBounds i true) (Act.put ⟨tmps, []⟩ o.dst v') w' := by
      intro v v' H' ρ' w' hK R' E hV
      rw [put_eta]
      refine AAny_ok f _ _ H' ρ' w' _ hK ⟨R', (hS.2.ext E).put hV o.dst (hd o hom)⟩ (fun o' ho' k hk => by rw [put_size]; exact hd o' ho' k hk) ?_
      intro t' H'' ρ'' w'' tmps' hq hs he hz
      exact hQ t' H'' ρ'' w'' tmps' hq hs (E.trans he) (by rw [hz, put_size])
    have hall := wp_one (P := P) (QC := QC) ops i o ho hS (hnext := fun a w' => wpAny P .any ops QC f (listed.setIfInBounds i true) a w') hgo
      (K := fun v H' => AAny P ops Q f (listed.setIfInBounds i true) (updO t o.dst v) H')
    refine hall ?_
    cases hg : o.guard with
    | none =>
      simp only [hg] at hstep ⊢
      exact runOut_mono (fun v H' hk => hk.2) _ hstep
    | some g =>
      simp only [hg] at hstep ⊢
      exact condW_mono hstep (runOut_mono (fun v H' hk => hk.2) _) (fun hk => hk.2)

theorem draw_ok {P : Program} {id : Nat} {ops : Array Oper} {Q : Exit → T → AH → Prop} {t : T} {H : AH} (is : List Nat) (hm : P.follows .mixedOrders = true) (hok : okOrd ops is (Array.replicate ops.size false) = true) (hl : is.length = ops.size)
    (h : awpOrd P ops (Q .normal) is t H) : awp P (.region id ops true) Q t H := by
  intro base ρ w tmps QC hS hd hQ
  have hA := AAny_ord is _ t H ops.size (by omega) ⟨by simp, fun j oj hj hl => by rw [getD_replicate_false'] at hl; cases hl⟩ hok h
  refine wp_region_any hm (AAny_ok ops.size _ t H ρ w.drew tmps hA ⟨hS.1.drew, hS.2.ext (ext_drew (base := base) (H := H) w)⟩ ?_ fun t' H' ρ' w' tmps' hq hs he hz => ?_)
  · intro o ho i hi
    have := List.all_eq_true.1 hd o ho
    simp only [hi, decide_eq_true_eq] at this
    exact this
  · exact hQ .normal t' H' ρ' w' tmps' hq hs ((ext_drew (base := base) (H := H) (ρ := ρ) w).trans he) hz

/-- The order of the listing. -/
def awpD (P : Program) (ops : Array Oper) (Q : T → AH → Prop) : Nat → (os : List Oper) → T → AH → (fun _ => Prop) (ops, Q, os)
  | _, [], t, H => Q t H
  | i, o :: os, t, H =>
    match o.guard with
    | none => runOut P H (evalOp P t H o.op) fun v H' => (quietOp o.op = true ∨ sinkB ops i = true ∨ LE H H') ∧ awpD P ops Q (i + 1) os (updO t o.dst v) H'
    | some g => condW (gv ops.toList t g.1) g.2 (runOut P H (evalOp P t H o.op) fun v H' => (quietOp o.op = true ∨ sinkB ops i = true ∨ LE H H') ∧ awpD P ops Q (i + 1) os (updO t o.dst v) H') (awpD P ops Q (i + 1) os (updO t o.dst undef) H)

theorem awpD_ord {P : Program} {ops : Array Oper} {Q : T → AH → Prop} : ∀ (os : List Oper) (i : Nat) (t : T) (H : AH), ops.toList.drop i = os → awpD P ops Q i os t H → awpOrd P ops Q (List.range' i os.length) t H
  | [], i, t, H, _, h => h
  | o :: os, i, t, H, hd, h => by
    have e : ops.toList[i]? = some o := by
      have := congrArg (fun l => l[0]?) hd
      simpa using this
    have hd' : ops.toList.drop (i + 1) = os := by
      rw [← List.drop_drop, hd]; rfl
    have ih := fun t H => awpD_ord (P := P) (Q := Q) os (i + 1) t H hd'
    rw [List.length_cons, List.range'_succ]
    unfold awpOrd
    rw [e]
    unfold awpD at h
    have hs : ∀ K K' : T → AH → Prop, (∀ v H', K (updO t o.dst v) H' → K' (updO t o.dst v) H') → (∀ H', K (updO t o.dst undef) H' → K' (updO t o.dst undef) H') → aStep P ops.toList i t H K → aStep P ops.toList i t H K' := by
      intro K K' k1 k2 hh
      unfold aStep at hh ⊢
      rw [e] at hh ⊢
      simp only at hh ⊢
      cases hg : o.guard with
      | none => simp only [hg] at hh ⊢; exact runOut_mono (fun v H' => k1 v H') _ hh
      | some g => simp only [hg] at hh ⊢; exact condW_mono hh (runOut_mono (fun v H' => k1 v H') _) (k2 H)
    have base : aStep P ops.toList i t H fun t' H' => (quietOp o.op = true ∨ sinkB ops i = true ∨ LE H H') ∧ awpOrd P ops Q (List.range' (i + 1) os.length) t' H' := by
      unfold aStep
      rw [e]
      simp only
      cases hg : o.guard with
      | none => simp only [hg] at h ⊢; exact runOut_mono (fun v H' k => ⟨k.1, ih _ _ k.2⟩) _ h
      | some g => simp only [hg] at h ⊢; exact condW_mono h (runOut_mono (fun v H' k => ⟨k.1, ih _ _ k.2⟩) _) (fun k => ⟨.inr (.inr (LE.refl H)), ih _ _ k⟩)
    simp only
    split
    · exact hs _ _ (fun v H' k => k.2) (fun H' k => k.2) base
    · rename_i hq
      refine hs _ _ ?_ ?_ base
      · rintro v H' ⟨k | k, k2⟩
        · exact absurd k hq
        · exact ⟨k, k2⟩
      · rintro H' ⟨k | k, k2⟩
        · exact absurd k hq
        · exact ⟨k, k2⟩

theorem draw_id {P : Program} {id : Nat} {l : List Oper} {Q : Exit → T → AH → Prop} {t : T} {H : AH} (hm : P.follows .mixedOrders = true) (hok : okOrd l.toArray (List.range' 0 l.length) (Array.replicate l.length false) = true)
    (h : awpD P l.toArray (Q .normal) 0 l t H) : awp P (.region id l.toArray true) Q t H :=
  draw_ok (ops := l.toArray) _ hm hok (by simp) (awpD_ord _ _ _ _ rfl h)

theorem awpD_nil (P : Program) (ops : Array Oper) (Q : T → AH → Prop) (i : Nat) (t : T) (H : AH) : awpD P ops Q i [] t H = Q t H := (rfl)
theorem awpD_cons (P : Program) (ops : Array Oper) (Q : T → AH → Prop) (i : Nat) (d : Option Tmp) (op : Op) (ty : TypeId) (pos : String) (af : Array Edge) (os : List Oper) (t : T) (H : AH) :
    awpD P ops Q i (⟨d, op, ty, pos, af, none⟩ :: os) t H = runOut P H (evalOp P t H op) fun v H' => (quietOp op = true ∨ sinkB ops i = true ∨ LE H H') ∧ awpD P ops Q (i + 1) os (updO t d v) H' := (rfl)
theorem awpD_guard (P : Program) (ops : Array Oper) (Q : T → AH → Prop) (i : Nat) (d : Option Tmp) (op : Op) (ty : TypeId) (pos : String) (af : Array Edge) (j : Nat) (w : Bool) (os : List Oper) (t : T) (H : AH) :
    awpD P ops Q i (⟨d, op, ty, pos, af, some (j, w)⟩ :: os) t H = condW (gv ops.toList t j) w (runOut P H (evalOp P t H op) fun v H' => (quietOp op = true ∨ sinkB ops i = true ∨ LE H H') ∧ awpD P ops Q (i + 1) os (updO t d v) H') (awpD P ops Q (i + 1) os (updO t d undef) H) := (rfl)
@[congr] theorem awpD_congr {P : Program} {ops : Array Oper} {os : List Oper} {Q : T → AH → Prop} {i i' : Nat} {t t' : T} {H H' : AH} (hi : i = i') (h : t = t') (k : H = H') : awpD P ops Q i os t H = awpD P ops Q i' os t' H' := by rw [hi, h, k]

/-- An order given by its numbers. -/
def stepI (P : Program) (ops : Array Oper) (K : T → AH → Prop) (i : Nat) : Option Oper → T → AH → (fun _ => Prop) (ops, K, i)
  | none, _, _ => False
  | some o, t, H =>
    match o.guard with
    | none => runOut P H (evalOp P t H o.op) fun v H' => (quietOp o.op = true ∨ sinkB ops i = true ∨ LE H H') ∧ K (updO t o.dst v) H'
    | some g => condW (gv ops.toList t g.1) g.2 (runOut P H (evalOp P t H o.op) fun v H' => (quietOp o.op = true ∨ sinkB ops i = true ∨ LE H H') ∧ K (updO t o.dst v) H') (K (updO t o.dst undef) H)

def awpI (P : Program) (ops : Array Oper) (Q : T → AH → Prop) : (is : List Nat) → T → AH → (fun _ => Prop) (ops, Q, is)
  | [], t, H => Q t H
  | i :: is, t, H => stepI P ops (awpI P ops Q is) i (ops.toList[i]?) t H

theorem awpI_ord {P : Program} {ops : Array Oper} {Q : T → AH → Prop} : ∀ (is : List Nat) (t : T) (H : AH), awpI P ops Q is t H → awpOrd P ops Q is t H
  | [], t, H, h => h
  | i :: is, t, H, h => by
    have ih := fun t H => awpI_ord (P := P) (ops := ops) (Q := Q) is t H
    unfold awpI at h
    unfold awpOrd
    cases e : ops.toList[i]? with
    | none => rw [e] at h; exact h.elim
    | some o =>
    rw [e] at h
    unfold stepI at h
    have hs : ∀ K K' : T → AH → Prop, (∀ v H', K (updO t o.dst v) H' → K' (updO t o.dst v) H') → (∀ H', K (updO t o.dst undef) H' → K' (updO t o.dst undef) H') → aStep P ops.toList i t H K → aStep P ops.toList i t H K' := by
      intro K K' k1 k2 hh
      unfold aStep at hh ⊢
      rw [e] at hh ⊢
      simp only at hh ⊢
      cases hg : o.guard with
      | none => simp only [hg] at hh ⊢; exact runOut_mono (fun v H' => k1 v H') _ hh
      | some g => simp only [hg] at hh ⊢; exact condW_mono hh (runOut_mono (fun v H' => k1 v H') _) (k2 H)
    have base : aStep P ops.toList i t H fun t' H' => (quietOp o.op = true ∨ sinkB ops i = true ∨ LE H H') ∧ awpOrd P ops Q is t' H' := by
      unfold aStep
      rw [e]
      simp only
      cases hg : o.guard with
      | none => simp only [hg] at h ⊢; exact runOut_mono (fun v H' k => ⟨k.1, ih _ _ k.2⟩) _ h
      | some g => simp only [hg] at h ⊢; exact condW_mono h (runOut_mono (fun v H' k => ⟨k.1, ih _ _ k.2⟩) _) (fun k => ⟨.inr (.inr (LE.refl H)), ih _ _ k⟩)
    simp only
    split
    · exact hs _ _ (fun v H' k => k.2) (fun H' k => k.2) base
    · rename_i hq
      refine hs _ _ ?_ ?_ base
      · rintro v H' ⟨k | k, k2⟩
        · exact absurd k hq
        · exact ⟨k, k2⟩
      · rintro H' ⟨k | k, k2⟩
        · exact absurd k hq
        · exact ⟨k, k2⟩

theorem draw_in {P : Program} {id : Nat} {ops : Array Oper} {Q : Exit → T → AH → Prop} {t : T} {H : AH} (is : List Nat) (hm : P.follows .mixedOrders = true) (hok : okOrd ops is (Array.replicate ops.size false) = true) (hl : is.length = ops.size)
    (h : awpI P ops (Q .normal) is t H) : awp P (.region id ops true) Q t H := draw_ok is hm hok hl (awpI_ord is _ _ h)

theorem awpI_nil (P : Program) (ops : Array Oper) (Q : T → AH → Prop) (t : T) (H : AH) : awpI P ops Q [] t H = Q t H := (rfl)
theorem awpI_cons (P : Program) (ops : Array Oper) (Q : T → AH → Prop) (i : Nat) (is : List Nat) (t : T) (H : AH) : awpI P ops Q (i :: is) t H = stepI P ops (awpI P ops Q is) i (ops.toList[i]?) t H := (rfl)
theorem stepI_op (P : Program) (ops : Array Oper) (K : T → AH → Prop) (i : Nat) (d : Option Tmp) (op : Op) (ty : TypeId) (pos : String) (af : Array Edge) (t : T) (H : AH) :
    stepI P ops K i (some ⟨d, op, ty, pos, af, none⟩) t H = runOut P H (evalOp P t H op) fun v H' => (quietOp op = true ∨ sinkB ops i = true ∨ LE H H') ∧ K (updO t d v) H' := (rfl)
theorem stepI_guard (P : Program) (ops : Array Oper) (K : T → AH → Prop) (i : Nat) (d : Option Tmp) (op : Op) (ty : TypeId) (pos : String) (af : Array Edge) (j : Nat) (w : Bool) (t : T) (H : AH) :
    stepI P ops K i (some ⟨d, op, ty, pos, af, some (j, w)⟩) t H = condW (gv ops.toList t j) w (runOut P H (evalOp P t H op) fun v H' => (quietOp op = true ∨ sinkB ops i = true ∨ LE H H') ∧ K (updO t d v) H') (K (updO t d undef) H) := (rfl)
@[congr] theorem stepI_congr {P : Program} {ops : Array Oper} {K : T → AH → Prop} {i : Nat} {o o' : Option Oper} {t t' : T} {H H' : AH} (ho : o = o') (h : t = t') (k : H = H') : stepI P ops K i o t H = stepI P ops K i o' t' H' := by rw [ho, h, k]
@[congr] theorem awpI_congr {P : Program} {ops : Array Oper} {is : List Nat} {Q : T → AH → Prop} {t t' : T} {H H' : AH} (h : t = t') (k : H = H') : awpI P ops Q is t H = awpI P ops Q is t' H' := by rw [h, k]
end Go.Abs
