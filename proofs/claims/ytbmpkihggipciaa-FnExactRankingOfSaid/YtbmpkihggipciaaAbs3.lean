/- The small logic, third text: what the evaluator says of an operation is what the machine does. No program is named here. -/
import Derived.Test.YtbmpkihggipciaaAbs2
import Derived.WalkSpells
set_option linter.unusedSimpArgs false
set_option linter.unusedVariables false
namespace Go.Abs
open Go Go.RowKit

structure TIOK (P : Program) (t : TypeId) (I : TI) : Prop where
  und : ∃ d, P.underlying t = some d ∧ I.d = tdOf d
  info : ∃ i z, P.info? t = some i ∧ i.zero = some z ∧ I.size = i.size ∧ I.bytes = i.bytes ∧ I.zero = z.cells.toList ∧ noTuple z = true ∧ z.cells.size = i.size
  flat : ∀ v ∈ I.zero, scal v = true
  len : I.zero.length = I.size

section
variable {P : Program} {t : TypeId} {I : TI}

theorem ti_ok (h : ti P t = some I) : TIOK P t I := by
  unfold ti at h
  split at h
  · rename_i d i hd hi
    split at h
    · rename_i z hz
      split at h
      · rename_i hc
        simp only [Bool.and_eq_true, beq_iff_eq, List.all_eq_true] at hc
        cases h
        exact ⟨⟨d, hd, rfl⟩, ⟨i, z, hi, hz, rfl, rfl, rfl, hc.2, hc.1.2⟩, hc.1.1, by simpa using hc.1.2⟩
      · cases h
    · cases h
  · cases h

theorem TIOK.slice (h : TIOK P t I) {e : TypeId} (hd : I.d = .slice e) : P.underlying t = some (.slice e) := by
  obtain ⟨d, hu, e1⟩ := h.und
  rw [e1] at hd
  cases d <;> simp [tdOf] at hd
  subst hd; exact hu
theorem TIOK.array (h : TIOK P t I) {n : Nat} {e : TypeId} (hd : I.d = .array n e) : P.underlying t = some (.array n e) := by
  obtain ⟨d, hu, e1⟩ := h.und
  rw [e1] at hd
  cases d <;> simp [tdOf] at hd
  obtain ⟨rfl, rfl⟩ := hd; exact hu
theorem TIOK.struct (h : TIOK P t I) {fs : List (Nat × TypeId)} (hd : I.d = .struct fs) : ∃ F, P.underlying t = some (.struct F) ∧ fs = F.toList.map fun f => (f.offset, f.type) := by
  obtain ⟨d, hu, e1⟩ := h.und
  rw [e1] at hd
  cases d <;> simp [tdOf] at hd
  exact ⟨_, hu, hd.symm⟩
theorem TIOK.str (h : TIOK P t I) (hd : I.d = .str) : P.underlying t = some .string := by
  obtain ⟨d, hu, e1⟩ := h.und
  rw [e1] at hd
  cases d <;> simp [tdOf] at hd
  exact hu
theorem TIOK.int (h : TIOK P t I) {k : IntKind} (hd : I.d = .int k) : P.underlying t = some (.int k) := by
  obtain ⟨d, hu, e1⟩ := h.und
  rw [e1] at hd
  cases d <;> simp [tdOf] at hd
  subst hd; exact hu
theorem TIOK.bool (h : TIOK P t I) (hd : I.d = .bool) : P.underlying t = some .bool := by
  obtain ⟨d, hu, e1⟩ := h.und
  rw [e1] at hd
  cases d <;> simp [tdOf] at hd
  exact hu

theorem TIOK.isAgg (h : TIOK P t I) (w : World) : (isAgg t).run P w = .ok I.d.isAgg w := by
  obtain ⟨d, hu, e⟩ := h.und
  unfold Go.isAgg
  rw [Sem.run_bind, run_underlying hu]
  rw [e]
  cases d <;> rfl
theorem TIOK.sizeOf (h : TIOK P t I) (w : World) : (sizeOf t).run P w = .ok I.size w := by
  obtain ⟨i, z, hi, _, hs, _⟩ := h.info
  simp [Go.sizeOf, typeInfo, hi, hs]
end

section
variable {P : Program} {base : Nat} {ρ : Nat → Nat} {H : AH} {w : World} {t : T} {tmps : Array Value}

theorem evo_ok (hT : TR ρ H.next w t tmps) {x : Operand} {v : Value} (h : evo t x = some v) : VR ρ H.next w v (Act.eval ⟨tmps, []⟩ x) := by
  cases x with
  | tmp i => simp [evo] at h; subst h; exact hT i
  | const c =>
    simp only [evo] at h
    split at h
    · rename_i hs; cases h; exact VR.scal hs
    · cases h
  | func f =>
    simp [evo] at h; subst h
    exact .one (.func _ _ _ rfl (fun j x y hx => by simp at hx))
  | global g => simp [evo] at h

theorem evs_ok (hT : TR ρ H.next w t tmps) : ∀ {xs : List Operand} {vs : List Value}, evs t xs = some vs → LV ρ H.next w vs (xs.map (Act.eval ⟨tmps, []⟩))
  | [], vs, h => by simp [evs] at h; subst h; exact LV.nil
  | x :: xs, vs, h => by
    simp only [evs] at h
    cases h1 : evo t x with
    | none => simp [h1] at h
    | some v =>
      cases h2 : evs t xs with
      | none => simp [h1, h2] at h
      | some us =>
        simp [h1, h2] at h
        subst h
        exact LV.cons (evo_ok hT h1) (evs_ok hT h2)

/-- Parts of a literal, told and laid. -/
def PV (ρ : Nat → Nat) (nx : Nat) (w : World) (xs ys : List (Nat × Value)) : Prop :=
  xs.length = ys.length ∧ ∀ (j : Nat) x y, xs[j]? = some x → ys[j]? = some y → x.1 = y.1 ∧ VR ρ nx w x.2 y.2

theorem evp_ok (hT : TR ρ H.next w t tmps) : ∀ {xs : List (Nat × Operand)} {vs : List (Nat × Value)}, evp t xs = some vs →
    PV ρ H.next w vs (xs.map fun p => (p.1, Act.eval ⟨tmps, []⟩ p.2))
  | [], vs, h => by simp [evp] at h; subst h; exact ⟨rfl, fun j x y hx => by simp at hx⟩
  | (i, x) :: xs, vs, h => by
    simp only [evp] at h
    cases h1 : evo t x with
    | none => simp [h1] at h
    | some v =>
      cases h2 : evp t xs with
      | none => simp [h1, h2] at h
      | some us =>
        simp [h1, h2] at h
        subst h
        obtain ⟨hl, hp⟩ := evp_ok hT h2
        refine ⟨by simp [hl], fun j x' y hx hy => ?_⟩
        rcases j with _ | j
        · simp at hx hy; subst hx; subst hy; exact ⟨rfl, evo_ok hT h1⟩
        · simp at hx hy
          exact hp j x' y hx (by simpa using hy)
end

/-- What an answer of the evaluator says of the operation's run. -/
def OutS (P : Program) (o : Oper) (tmps : Array Value) (base : Nat) (ρ : Nat → Nat) (H : AH) (w : World) : Out → Prop
  | .val v H' => ∃ v' w' ρ', (execOp (Act.eval ⟨tmps, []⟩) o).run P w = .ok (.value v') w' ∧ Rel base ρ' H' w' ∧ Ext base ρ H.next w ρ' H'.next w' ∧ VR ρ' H'.next w' v v'
  | .unit H' => ∃ w' ρ', (execOp (Act.eval ⟨tmps, []⟩) o).run P w = .ok .skip w' ∧ Rel base ρ' H' w' ∧ Ext base ρ H.next w ρ' H'.next w'
  | .call f args => ∃ args' : List Value, (execOp (Act.eval ⟨tmps, []⟩) o).run P w = (callFunc f args'.toArray).run P w ∧ LV ρ H.next w args args'
  | .need p o' => p → OutS P o tmps base ρ H w o'
  | .stuck => True

section
variable {P : Program} {o : Oper} {tmps : Array Value} {base : Nat} {ρ : Nat → Nat} {H : AH} {w : World}

theorem OutS.bind {α : Type} {x : Option α} {f : α → Out} (h : ∀ a, x = some a → OutS P o tmps base ρ H w (f a)) : OutS P o tmps base ρ H w (bindO x f) := by
  cases x with
  | none => trivial
  | some a => exact h a rfl
theorem OutS.int {v : Value} {f : IntKind → Int → Out} (h : ∀ k n, v = .int k n → OutS P o tmps base ρ H w (f k n)) : OutS P o tmps base ρ H w (asI v f) := by
  unfold asI; split
  · exact h _ _ rfl
  · trivial
theorem OutS.bool {v : Value} {f : Bool → Out} (h : ∀ b, v = .bool b → OutS P o tmps base ρ H w (f b)) : OutS P o tmps base ρ H w (asB v f) := by
  unfold asB; split
  · exact h _ rfl
  · trivial
theorem OutS.ptr {v : Value} {f : Nat → Nat → Out} (h : ∀ i q, v = .pointer (some ⟨i, q, none⟩) → OutS P o tmps base ρ H w (f i q)) : OutS P o tmps base ρ H w (asP v f) := by
  unfold asP; split
  · exact h _ _ rfl
  · trivial
theorem OutS.sl {v : Value} {n0 : Out} {f : Nat → Nat → Option Nat → Nat → Nat → Out} (h0 : ∀ n c, v = .slice none n c → OutS P o tmps base ρ H w n0)
    (h : ∀ i q s n c, v = .slice (some ⟨i, q, s⟩) n c → OutS P o tmps base ρ H w (f i q s n c)) : OutS P o tmps base ρ H w (asSl v n0 f) := by
  unfold asSl; split
  · exact h0 _ _ rfl
  · exact h _ _ _ _ _ rfl
  · trivial
theorem OutS.agg {v : Value} {f : List Value → Out} (h : ∀ cs, v = .agg cs → OutS P o tmps base ρ H w (f cs.toList)) : OutS P o tmps base ρ H w (asAgg v f) := by
  unfold asAgg; split
  · exact h _ rfl
  · trivial
theorem OutS.tup {v : Value} {f : List Value → Out} (h : ∀ cs, v = .tuple cs → OutS P o tmps base ρ H w (f cs.toList)) : OutS P o tmps base ρ H w (asTup v f) := by
  unfold asTup; split
  · exact h _ rfl
  · trivial
theorem OutS.str {v : Value} {f : ByteArray → Out} (h : ∀ s, v = .string s → OutS P o tmps base ρ H w (f s)) : OutS P o tmps base ρ H w (asStr v f) := by
  unfold asStr; split
  · exact h _ rfl
  · trivial
theorem OutS.fn {v : Value} {f : FuncId → List Value → Out} (h : ∀ g cap, v = .func (.func g) #[] cap → OutS P o tmps base ρ H w (f g cap.toList)) : OutS P o tmps base ρ H w (asFn v f) := by
  unfold asFn; split
  · rename_i g first cap
    split
    · rename_i hs
      obtain rfl : first = #[] := Array.eq_empty_of_size_eq_zero hs
      exact h _ _ rfl
    · trivial
  · trivial
theorem OutS.cells {v : Value} {f : List Value → Out} (h : (∀ xs, v ≠ .tuple xs) → OutS P o tmps base ρ H w (f v.cells.toList)) : OutS P o tmps base ρ H w (asCells v f) := by
  unfold asCells; split
  · exact h (fun _ e => by cases e)
  · trivial
  · rename_i h1 h2
    have := h (fun xs e => h2 xs e)
    have e : v.cells.toList = [v] := by cases v <;> simp_all [Value.cells]
    rwa [e] at this
theorem OutS.slt {d : TD} {f : TypeId → Out} (h : ∀ e, d = .slice e → OutS P o tmps base ρ H w (f e)) : OutS P o tmps base ρ H w (slT d f) := by
  unfold slT; split
  · exact h _ rfl
  · trivial
theorem OutS.stt {d : TD} {f : List (Nat × TypeId) → Out} (h : ∀ e, d = .struct e → OutS P o tmps base ρ H w (f e)) : OutS P o tmps base ρ H w (stT d f) := by
  unfold stT; split
  · exact h _ rfl
  · trivial

/-- An operation that leaves the world. -/
theorem OutS.keep (R : Rel base ρ H w) {v v' : Value} (hr : (execOp (Act.eval ⟨tmps, []⟩) o).run P w = .ok (.value v') w) (hv : VR ρ H.next w v v') :
    OutS P o tmps base ρ H w (.val v H) := ⟨v', w, ρ, hr, R, Ext.refl _ _ _ _, hv⟩
end

/-! ### Lists -/
theorem take_splice (l : List Value) (o n : Nat) (vs : List Value) (h : o + vs.length ≤ n) (hn : n ≤ l.length) : (splice l o vs).take n = splice (l.take n) o vs := by
  unfold splice
  have e1 : (l.take n).take o = l.take o := by rw [List.take_take]; congr 1; omega
  have e2 : (l.take n).drop (o + vs.length) = (l.drop (o + vs.length)).take (n - (o + vs.length)) := by rw [List.drop_take]
  rw [e1, e2, List.take_append, List.take_append]
  have l1 : (l.take o).length = o := by simp; omega
  have l2 : (l.take o ++ vs).length = o + vs.length := by simp; omega
  rw [l1, l2]
  congr 1
  congr 1
  · exact List.take_of_length_le (by omega)
  · exact List.take_of_length_le (by omega)

theorem splice_length (l : List Value) (o : Nat) (vs : List Value) (h : o + vs.length ≤ l.length) : (splice l o vs).length = l.length := by
  unfold splice; simp; omega

theorem splice_one (l : List Value) (o : Nat) (v : Value) (h : o < l.length) : splice l o [v] = l.set o v := by
  unfold splice
  simp only [List.length_singleton]
  rw [List.set_eq_take_append_cons_drop, if_pos h]
  simp

theorem L1.splice {ρ : Nat → Nat} {nx : Nat} {w : World} {a b u v : List Value} (h : L1 ρ nx w a b) (k : L1 ρ nx w u v) (o : Nat) : L1 ρ nx w (splice a o u) (splice b o v) := by
  unfold Abs.splice
  rw [← k.1]
  exact ((h.take o).append k).append (h.drop _)

/-! ### The operations -/
section
variable {P : Program} {base : Nat} {ρ : Nat → Nat} {H : AH} {w : World} {t : T} {tmps : Array Value} {dst : Option Tmp} {ty : TypeId} {pos : String} {af : Array Edge} {gd : Option (Nat × Bool)}

theorem s_move (R : Rel base ρ H w) (hT : TR ρ H.next w t tmps) (x : Operand) : OutS P ⟨dst, .move x, ty, pos, af, gd⟩ tmps base ρ H w (evalOp P t H (.move x)) := by
  unfold evalOp
  exact .bind fun v hv => .keep R rfl (evo_ok hT hv)
theorem s_assign (R : Rel base ρ H w) (hT : TR ρ H.next w t tmps) (x : Operand) : OutS P ⟨dst, .assign x, ty, pos, af, gd⟩ tmps base ρ H w (evalOp P t H (.assign x)) := by
  unfold evalOp
  exact .bind fun v hv => .keep R rfl (evo_ok hT hv)

theorem s_pick (R : Rel base ρ H w) (hT : TR ρ H.next w t tmps) (c a b : Operand) : OutS P ⟨dst, .pick c a b, ty, pos, af, gd⟩ tmps base ρ H w (evalOp P t H (.pick c a b)) := by
  unfold evalOp
  refine .bind fun vc hc => .bind fun va ha => .bind fun vb hb => .bool fun q hq => ?_
  subst hq
  have ec := (evo_ok hT hc).bool
  refine .keep R (v' := if q = true then Act.eval ⟨tmps, []⟩ a else Act.eval ⟨tmps, []⟩ b) ?_ ?_
  · simp [execOp, ec, asBool]
  · cases q
    · simpa using evo_ok hT hb
    · simpa using evo_ok hT ha

theorem run_newVar' (w : World) (e : TypeId) (v : Value) : (newVar e v).run P w = .ok ⟨w.heap.size, 0, none⟩ (w.alloc (.cells v.cells e)) := by
  simp [newVar, newRow]

/-- A new row whose cells are just these. -/
theorem push_new (R : Rel base ρ H w) (e : TypeId) {xs : List Value} {cs : Array Value} (h : L1 ρ H.next w xs cs.toList) :
    Rel base (ren ρ H.next w.heap.size) (H.push ⟨e, true, xs⟩) (w.alloc (.cells cs e)) ∧ Ext base ρ H.next w (ren ρ H.next w.heap.size) (H.push ⟨e, true, xs⟩).next (w.alloc (.cells cs e)) :=
  R.push e xs cs (by rw [List.take_of_length_le (by have := h.1; omega)]; exact h)

theorem ren_new (ρ : Nat → Nat) (i b : Nat) : ren ρ i b i = b := by unfold ren; rw [if_pos rfl]

theorem s_alloc (R : Rel base ρ H w) (e : TypeId) : OutS P ⟨dst, .alloc e, ty, pos, af, gd⟩ tmps base ρ H w (evalOp P t H (.alloc e)) := by
  unfold evalOp
  refine .bind fun I hI => ?_
  have K := ti_ok hI
  obtain ⟨i, z, hi, hz, _, _, hzz, _, _⟩ := K.info
  obtain ⟨R', E⟩ := push_new R e (xs := I.zero) (cs := z.cells) (by rw [hzz]; exact L1.self (fun v hv => K.flat v (by rw [hzz]; exact hv)))
  refine ⟨.pointer (some ⟨w.heap.size, 0, none⟩), _, _, ?_, R', E, ?_⟩
  · simp [execOp, Instr.alloc, zeroValue, typeInfo, hi, hz, run_newVar']
  · have h := VR.one (V1.ptr (ρ := ren ρ H.next w.heap.size) (nx := H.next + 1) (w := w.alloc (.cells z.cells e)) H.next 0 (Nat.lt_succ_self _))
    rw [ren_new] at h
    exact h

theorem s_box (R : Rel base ρ H w) (hT : TR ρ H.next w t tmps) (e : TypeId) (x : Operand) : OutS P ⟨dst, .box e x, ty, pos, af, gd⟩ tmps base ρ H w (evalOp P t H (.box e x)) := by
  unfold evalOp
  refine .bind fun v hv => .cells fun ht => ?_
  obtain ⟨R', E⟩ := push_new R e ((evo_ok hT hv).cells ht)
  refine ⟨.pointer (some ⟨w.heap.size, 0, none⟩), _, _, ?_, R', E, ?_⟩
  · simp [execOp, Instr.box, run_newVar']
  · have h := VR.one (V1.ptr (ρ := ren ρ H.next w.heap.size) (nx := H.next + 1) (w := w.alloc (.cells (Act.eval ⟨tmps, []⟩ x).cells e)) H.next 0 (Nat.lt_succ_self _))
    rw [ren_new] at h
    exact h

theorem run_loadVar' (R : Rel base ρ H w) {T0 : TypeId} {I : TI} (K : TIOK P T0 I) (hd : I.d.isAgg = true) {i q : Nat} {r : Row} (hr : H.row i = some r) (hn : q + I.size ≤ r.cells.length) (hk : r.ok (seg r.cells q I.size)) :
    ∃ ys : List Value, (loadVar T0 ⟨ρ i, q, none⟩).run P w = .ok (.agg ys.toArray) w ∧ L1 ρ H.next w (seg r.cells q I.size) ys := by
  obtain ⟨ys, hl, hc, h1⟩ := R.cells hr hn hk
  refine ⟨ys, ?_, h1⟩
  have hld := run_loadCells_list (P := P) w ⟨ρ i, q, none⟩ ys (fun j v hj => by rw [Addr.add_lit]; exact hc j v hj)
  rw [hl] at hld
  simp [loadVar, K.isAgg, hd, K.sizeOf, hld]

theorem run_loadVar1 (R : Rel base ρ H w) {T0 : TypeId} {I : TI} (K : TIOK P T0 I) (hd : I.d.isAgg = false) {i q : Nat} {r : Row} {v : Value} (hr : H.row i = some r) (hv : r.cells[q]? = some v) (hk : r.ok [v]) :
    ∃ v', (loadVar T0 ⟨ρ i, q, none⟩).run P w = .ok v' w ∧ V1 ρ H.next w v v' := by
  obtain ⟨v', hc, h1⟩ := R.cell hr hv hk
  exact ⟨v', by simp [loadVar, K.isAgg, hd, hc], h1⟩

theorem s_load (R : Rel base ρ H w) (hT : TR ρ H.next w t tmps) (e : TypeId) (a : Operand) : OutS P ⟨dst, .load e a, ty, pos, af, gd⟩ tmps base ρ H w (evalOp P t H (.load e a)) := by
  unfold evalOp
  refine .bind fun I hI => .bind fun v hv => .ptr fun i q hp => .bind fun r hr => ?_
  have K := ti_ok hI
  subst hp
  obtain ⟨_, _, ev⟩ := (evo_ok hT hv).ptr
  split
  · rename_i hd
    rintro ⟨hn, hk⟩
    obtain ⟨ys, hl, h1⟩ := run_loadVar' R K hd hr hn hk
    refine .keep R (v' := .agg ys.toArray) ?_ h1.vr
    simp [execOp, Instr.loadAt, ev, Instr.sureAddr, hl]
  · rename_i hd
    refine .bind fun x hx => ?_
    intro hk
    obtain ⟨v', hl, h1⟩ := run_loadVar1 R K (by simpa using hd) hr hx hk
    refine .keep R (v' := v') ?_ (.one h1)
    simp [execOp, Instr.loadAt, ev, Instr.sureAddr, hl]

/-- A store of cells into a row. -/
theorem store_row (R : Rel base ρ H w) {i q : Nat} {r : Row} {xs ys : List Value} (hr : H.row i = some r) (hb : r.rw = true) (hx : L1 ρ H.next w xs ys) (hn : q + xs.length ≤ r.cells.length) :
    ∃ w', (storeCells ⟨ρ i, q, none⟩ ys).run P w = .ok () w' ∧ Rel base ρ (H.setCells i (splice r.cells q xs)) w' ∧ Ext base ρ H.next w ρ (H.setCells i (splice r.cells q xs)).next w' := by
  obtain ⟨_, cs, hcs, hl⟩ := R.rwr i r hr hb
  have hle := Rel.lenLe hl
  have hrun := run_storeCells_at P (ρ i) q r.ty ys 0 cs w hcs (by have := hx.1; omega) hx.all
  simp only [Nat.add_zero] at hrun
  refine ⟨_, hrun, ?_⟩
  refine R.set hr hb hcs ?_ ?_
  · have := hx.1; simp; omega
  · have e : (cs.toList.take q ++ ys ++ cs.toList.drop (q + ys.length)) = splice cs.toList q ys := rfl
    rw [e, splice_length _ _ _ (by omega)]
    simp only [List.toList_toArray]
    rw [take_splice _ _ _ _ (by have := hx.1; omega) (by simpa using hle)]
    exact hl.splice hx q

theorem s_store (R : Rel base ρ H w) (hT : TR ρ H.next w t tmps) (e : TypeId) (a x : Operand) : OutS P ⟨dst, .store e a x, ty, pos, af, gd⟩ tmps base ρ H w (evalOp P t H (.store e a x)) := by
  unfold evalOp
  refine .bind fun I hI => .bind fun va hva => .ptr fun i q hp => .bind fun v hv => .bind fun r hr => ?_
  have K := ti_ok hI
  subst hp
  obtain ⟨_, _, ev⟩ := (evo_ok hT hva).ptr
  split
  · refine .agg fun cs hcs => ?_
    rintro ⟨hb, hl, hn⟩
    subst hcs
    obtain ⟨ys, ey, h1⟩ := (evo_ok hT hv).aggs
    obtain ⟨w', hrun, R', E⟩ := store_row (P := P) R hr hb h1 (q := q) (by omega)
    refine ⟨w', ρ, ?_, R', E⟩
    have hs : ys.size = I.size := by have := h1.1; simp at this; simp at hl; omega
    simp [execOp, Instr.storeAt, ev, Instr.sureAddr, storeVar, ey, Value.cells, K.sizeOf, hs, hrun]
  · rintro ⟨hb, h1, hn, hs⟩
    have hv1 := (evo_ok hT hv).to1 h1
    obtain ⟨w', hrun, R', E⟩ := store_row (P := P) R hr hb (L1.cons hv1 L1.nil) (q := q) (by simp; omega)
    rw [splice_one _ _ _ hn] at R' E
    refine ⟨w', ρ, ?_, R', E⟩
    have hc : (Act.eval ⟨tmps, []⟩ x).cells = #[Act.eval ⟨tmps, []⟩ x] := by
      have := hv1.oneCell
      cases hz : Act.eval ⟨tmps, []⟩ x <;> simp_all [Value.cells, Value.oneCell']
    simp [execOp, Instr.storeAt, ev, Instr.sureAddr, storeVar, hc, K.sizeOf, hs, hrun]

theorem s_nilCheck (R : Rel base ρ H w) (hT : TR ρ H.next w t tmps) (x : Operand) : OutS P ⟨dst, .nilCheck x, ty, pos, af, gd⟩ tmps base ρ H w (evalOp P t H (.nilCheck x)) := by
  unfold evalOp
  refine .bind fun v hv => ?_
  have hR := evo_ok hT hv
  unfold okNil
  split
  · rename_i a
    obtain ⟨i, q, s⟩ := a
    obtain ⟨h1, h2, h3⟩ := hR.ptr
    exact .keep R (by simp [execOp, h3]) hR
  · obtain ⟨rfl, ys, h3, h4⟩ := hR.func
    exact .keep R (by simp [execOp, h3]) hR
  · trivial

theorem s_unOp (R : Rel base ρ H w) (hT : TR ρ H.next w t tmps) (op : UnOp) (e : TypeId) (x : Operand) : OutS P ⟨dst, .unOp op e x, ty, pos, af, gd⟩ tmps base ρ H w (evalOp P t H (.unOp op e x)) := by
  unfold evalOp
  refine .bind fun v hv => ?_
  have hR := evo_ok hT hv
  unfold unE
  split
  · have e1 := hR.int
    exact .keep R (by simp [execOp, e1, Op.unary, Op.intArith]) (VR.scal rfl)
  · have e1 := hR.bool
    exact .keep R (by simp [execOp, e1, Op.unary]) (VR.scal rfl)
  · trivial

theorem s_convert (R : Rel base ρ H w) (hT : TR ρ H.next w t tmps) (s d : TypeId) (x : Operand) : OutS P ⟨dst, .convert s d x, ty, pos, af, gd⟩ tmps base ρ H w (evalOp P t H (.convert s d x)) := by
  unfold evalOp
  refine .bind fun S hS => .bind fun I hI => .bind fun v hv => ?_
  have hR := evo_ok hT hv
  unfold convE
  split
  · rename_i hs hd
    have e1 := hR.int
    exact .keep R (by simp [execOp, e1, convert, run_underlying ((ti_ok hS).int hs), run_underlying ((ti_ok hI).int hd), Conv.intToInt]) (VR.scal rfl)
  · rename_i hs hd
    have e1 := hR.str
    exact .keep R (by simp [execOp, e1, convert, run_underlying ((ti_ok hS).str hs), run_underlying ((ti_ok hI).str hd)]) (VR.scal rfl)
  · trivial

theorem s_makeFunc (R : Rel base ρ H w) (hT : TR ρ H.next w t tmps) (fn : Fn) (first cap : Array Operand) : OutS P ⟨dst, .makeFunc fn first cap, ty, pos, af, gd⟩ tmps base ρ H w (evalOp P t H (.makeFunc fn first cap)) := by
  simp only [evalOp]
  split
  · rename_i hf
    obtain rfl : first = #[] := Array.eq_empty_of_size_eq_zero hf
    refine .bind fun vs hvs => ?_
    intro h1
    have hL := evs_ok hT hvs
    refine .keep R (v' := .func fn #[] (cap.map (Act.eval ⟨tmps, []⟩))) (by simp [execOp, Instr.makeFunc]) (.one (.func _ _ _ ?_ ?_))
    · have := hL.1; simp at this ⊢; exact this
    · intro j x y hx hy
      have hx' : vs[j]? = some x := by simpa using hx
      have hy' : (cap.toList.map (Act.eval ⟨tmps, []⟩))[j]? = some y := by
        rw [← Array.toList_map]; simpa using hy
      exact (hL.2 j x y hx' hy').to1 (h1 x (List.mem_of_getElem? hx'))
  · trivial

theorem s_extract (R : Rel base ρ H w) (hT : TR ρ H.next w t tmps) (x : Operand) (i : Nat) : OutS P ⟨dst, .extract x i, ty, pos, af, gd⟩ tmps base ρ H w (evalOp P t H (.extract x i)) := by
  unfold evalOp
  refine .bind fun v hv => .tup fun vs hvs => .bind fun u hu => ?_
  subst hvs
  obtain ⟨ys, ey, hL⟩ := (evo_ok hT hv).tuples
  have hi : i < ys.toList.length := by rw [← hL.1]; exact (List.getElem?_eq_some_iff.1 hu).1
  have hy : ys.toList[i]? = some ys.toList[i] := List.getElem?_eq_getElem hi
  refine .keep R (v' := ys.toList[i]) ?_ (hL.2 i _ _ hu hy)
  have : ys[i]? = some ys.toList[i] := by rw [← hy]; simp
  simp [execOp, ey, Instr.extract, this]

theorem run_fieldPlace (w : World) {ft : TypeId} {F : TI} (K : TIOK P ft F) (h : F.size ≠ 0) (f : Field) (hf : f.type = ft) (b q : Nat) :
    (fieldPlace ⟨b, q, none⟩ f).run P w = .ok ⟨b, q + f.offset, none⟩ w := by
  simp [fieldPlace, hf, K.sizeOf, h, Addr.add_lit]

theorem field_of {F : Array Field} {fs : List (Nat × TypeId)} (h : fs = F.toList.map fun f => (f.offset, f.type)) {f : Nat} {q : Nat × TypeId} (hq : fs[f]? = some q) : ∃ fd, F[f]? = some fd ∧ fd.offset = q.1 ∧ fd.type = q.2 := by
  subst h
  simp only [List.getElem?_map, Array.getElem?_toList, Option.map_eq_some_iff] at hq
  obtain ⟨fd, h1, h2⟩ := hq
  subst h2
  exact ⟨fd, h1, rfl, rfl⟩

theorem s_fieldAddr (R : Rel base ρ H w) (hT : TR ρ H.next w t tmps) (e : TypeId) (x : Operand) (f : Nat) : OutS P ⟨dst, .fieldAddr e x f, ty, pos, af, gd⟩ tmps base ρ H w (evalOp P t H (.fieldAddr e x f)) := by
  unfold evalOp
  refine .bind fun I hI => .stt fun fs hfs => .bind fun q hq => .bind fun F hF => .bind fun v hv => .ptr fun i p hp => ?_
  intro hz
  subst hp
  obtain ⟨hi, _, ev⟩ := (evo_ok hT hv).ptr
  obtain ⟨A, hu, hA⟩ := (ti_ok hI).struct hfs
  obtain ⟨fd, h1, h2, h3⟩ := field_of hA hq
  refine .keep R (v' := .pointer (some ⟨ρ i, p + q.1, none⟩)) ?_ (.one (.ptr i _ hi))
  simp [execOp, ev, Instr.fieldAt, run_underlying hu, h1, Instr.sureAddr, run_fieldPlace w (ti_ok hF) hz fd h3, h2]

theorem run_part (w : World) {ft : TypeId} {F : TI} (K : TIOK P ft F) (cs : Array Value) (q : Nat) :
    (part ft cs q).run P w = if F.d.isAgg = true then .ok (.agg (cs.extract q (q + F.size))) w else match cs[q]? with | some v => .ok v w | none => .halt (.stuck "part: no such cell") w := by
  unfold part
  rw [Sem.run_bind, K.isAgg]
  cases h : F.d.isAgg with
  | true => simp [K.sizeOf]
  | false =>
    simp
    cases cs[q]? <;> simp

theorem extract_seg (cs : Array Value) (q n : Nat) : (cs.extract q (q + n)).toList = seg cs.toList q n := by
  unfold seg
  simp [List.extract_eq_take_drop]

theorem part_ok (R : Rel base ρ H w) {o : Oper} {ft : TypeId} {F : TI} (K : TIOK P ft F) {xs ys : Array Value} (hL : L1 ρ H.next w xs.toList ys.toList) (q : Nat)
    (hr : ∀ v, (part ft ys q).run P w = .ok v w → (execOp (Act.eval ⟨tmps, []⟩) o).run P w = .ok (.value v) w) :
    OutS P o tmps base ρ H w (if F.d.isAgg = true then .need (q + F.size ≤ xs.toList.length) (.val (.agg (seg xs.toList q F.size).toArray) H) else bindO (xs.toList[q]?) fun x => .val x H) := by
  split
  · rename_i hd
    intro hn
    refine .keep R (v' := .agg (ys.extract q (q + F.size))) (hr _ ?_) ?_
    · rw [run_part w K, if_pos hd]
    · have h := ((hL.drop q).take F.size).vr
      have e : ys.extract q (q + F.size) = ((ys.toList.drop q).take F.size).toArray := by
        apply Array.ext'; rw [extract_seg]; rfl
      rw [e]; exact h
  · rename_i hd
    refine .bind fun x hx => ?_
    obtain ⟨y, hy, h1⟩ := hL.get hx
    refine .keep R (v' := y) (hr _ ?_) (.one h1)
    have hy' : ys[q]? = some y := by simpa using hy
    rw [run_part w K, if_neg hd, hy']

theorem s_field (R : Rel base ρ H w) (hT : TR ρ H.next w t tmps) (e : TypeId) (x : Operand) (f : Nat) : OutS P ⟨dst, .field e x f, ty, pos, af, gd⟩ tmps base ρ H w (evalOp P t H (.field e x f)) := by
  unfold evalOp
  refine .bind fun I hI => .stt fun fs hfs => .bind fun q hq => .bind fun F hF => .bind fun v hv => .agg fun cs hcs => ?_
  subst hcs
  obtain ⟨ys, ey, hL⟩ := (evo_ok hT hv).aggs
  obtain ⟨A, hu, hA⟩ := (ti_ok hI).struct hfs
  obtain ⟨fd, h1, h2, h3⟩ := field_of hA hq
  refine part_ok R (ti_ok hF) hL q.1 fun v hp => ?_
  simp [execOp, ey, Instr.field, run_underlying hu, h1, asAgg, Go.asAgg, h2, h3, hp]

theorem s_indexAddr (R : Rel base ρ H w) (hT : TR ρ H.next w t tmps) (e : TypeId) (x ix : Operand) : OutS P ⟨dst, .indexAddr e x ix, ty, pos, af, gd⟩ tmps base ρ H w (evalOp P t H (.indexAddr e x ix)) := by
  unfold evalOp
  refine .bind fun I hI => .bind fun v hv => .bind fun vi hvi => .int fun k n hn => ?_
  subst hn
  have ei := (evo_ok hT hvi).int
  split
  · rename_i e' hd
    refine .bind fun E hE => .sl (fun _ _ _ => trivial) fun i q s len c hs => ?_
    rintro ⟨h0, h1⟩
    have hu := (ti_ok hI).slice hd
    subst hs
    have hfin : ∀ a c', a = ⟨ρ i, q, none⟩ ∨ (len = 0 ∧ 0 < q) → Act.eval ⟨tmps, []⟩ x = .slice (some a) len c' → i < H.next →
        OutS P ⟨dst, .indexAddr e x ix, ty, pos, af, gd⟩ tmps base ρ H w (.val (.pointer (some ⟨i, q + n.toNat * E.size, none⟩)) H) := by
      intro q' c' hq' ev hi
      rcases hq' with rfl | ⟨hl, _⟩
      · refine .keep R (v' := .pointer (some ⟨ρ i, q + n.toNat * E.size, none⟩)) ?_ (.one (.ptr i _ hi))
        simp [execOp, ev, ei, Instr.indexAt, asIntOf, run_underlying hu, h0, h1, (ti_ok hE).sizeOf, Addr.add_lit]
      · omega
    cases s with
    | none =>
      obtain ⟨hi, ev⟩ := (evo_ok hT hv).sle
      exact hfin _ c (.inl rfl) ev hi
    | some z =>
      obtain ⟨hi, q', c', ev, _, hq⟩ := (evo_ok hT hv).slu
      exact hfin q' c' (hq.imp (fun h => h.1) id) ev hi
  · rename_i m e' hd
    refine .bind fun E hE => .ptr fun i q hp => ?_
    rintro ⟨h0, h1⟩
    have hu := (ti_ok hI).array hd
    subst hp
    obtain ⟨hi, _, ev⟩ := (evo_ok hT hv).ptr
    refine .keep R (v' := .pointer (some ⟨ρ i, q + n.toNat * E.size, none⟩)) ?_ (.one (.ptr i _ hi))
    simp [execOp, ev, ei, Instr.indexAt, asIntOf, run_underlying hu, Instr.sureAddr, h0, h1, (ti_ok hE).sizeOf, Addr.add_lit]
  · trivial

theorem s_index (R : Rel base ρ H w) (hT : TR ρ H.next w t tmps) (e : TypeId) (x ix : Operand) : OutS P ⟨dst, .index e x ix, ty, pos, af, gd⟩ tmps base ρ H w (evalOp P t H (.index e x ix)) := by
  unfold evalOp
  refine .bind fun I hI => .bind fun v hv => .bind fun vi hvi => .int fun k n hn => ?_
  subst hn
  have ei := (evo_ok hT hvi).int
  split
  · rename_i m e' hd
    refine .bind fun E hE => .agg fun cs hcs => ?_
    rintro ⟨h0, h1⟩
    have hu := (ti_ok hI).array hd
    subst hcs
    obtain ⟨ys, ey, hL⟩ := (evo_ok hT hv).aggs
    refine part_ok R (ti_ok hE) hL _ fun v hp => ?_
    simp [execOp, ey, ei, Instr.index, asIntOf, run_underlying hu, h0, h1, (ti_ok hE).sizeOf, hp]
  · rename_i hd
    refine .str fun s hs => ?_
    rintro ⟨h0, h1⟩
    have hu := (ti_ok hI).str hd
    subst hs
    have es := (evo_ok hT hv).str
    refine .keep R ?_ (VR.scal rfl)
    have hlt : n.toNat < s.size := by omega
    have hg : s[n.toNat]? = some s[n.toNat] := by simp [hlt]
    have hd2 : s.data.toList.getD n.toNat 0 = s[n.toNat] := by
      rw [List.getD_eq_getElem?_getD]
      have : s.data.toList[n.toNat]? = some s[n.toNat] := by
        rw [List.getElem?_eq_getElem (by simpa using hlt)]; rfl
      rw [this]; rfl
    rw [hd2]
    simp [execOp, es, ei, Instr.index, asIntOf, run_underlying hu, h0, hg]
  · trivial

theorem fill_parts {nx : Nat} (place : Nat → Option (Nat × Nat)) : ∀ (ps qs : List (Nat × Value)) (xs : List Value) (ys : Array Value) (out : List Value), PV ρ nx w ps qs → L1 ρ nx w xs ys.toList →
    fillL place xs ps = some out → ∃ zs : Array Value, Instr.fill place ys qs = some zs ∧ L1 ρ nx w out zs.toList
  | [], [], xs, ys, out, _, hL, h => by
    simp [fillL] at h; subst h
    exact ⟨ys, rfl, hL⟩
  | [], q :: qs, _, _, _, hP, _, _ => by have := hP.1; simp at this
  | p :: ps, [], _, _, _, hP, _, _ => by have := hP.1; simp at this
  | (i, u) :: ps, (j, v) :: qs, xs, ys, out, hP, hL, h => by
    obtain ⟨hij, huv⟩ := hP.2 0 (i, u) (j, v) rfl rfl
    simp only at hij huv
    subst hij
    have hP' : PV ρ nx w ps qs := ⟨by have := hP.1; simp at this; exact this, fun m x y hx hy => hP.2 (m + 1) x y (by simpa using hx) (by simpa using hy)⟩
    simp only [fillL] at h
    cases hp : place i with
    | none => simp [hp] at h
    | some pq =>
      obtain ⟨off, sz⟩ := pq
      simp only [hp, Option.bind_some] at h
      split at h
      · rename_i hc
        obtain ⟨h1, h2, h3⟩ := hc
        have hcv := huv.cells (fun xs e => by subst e; simp [noTuple] at h3)
        have hsz : v.cells.size = u.cells.size := by have := hcv.1; simp at this; exact this.symm
        have hlen := hL.1
        have key : ∀ (l : List Value) (k : Nat) (cs : Array Value), (l.zipIdx k).foldl (fun cs (c, j) => cs.setIfInBounds (off + j) c) cs = cs → True := fun _ _ _ _ => trivial
        have fold : ∀ (l : List Value) (k : Nat) (cs : Array Value), off + k + l.length ≤ cs.size →
            ((l.zipIdx k).foldl (fun cs (c, j) => cs.setIfInBounds (off + j) c) cs).toList = splice cs.toList (off + k) l := by
          intro l
          induction l with
          | nil => intro k cs hk; simp [splice]
          | cons c l ih =>
            intro k cs hk
            simp only [List.zipIdx_cons, List.foldl_cons]
            rw [ih (k + 1) _ (by simp at hk ⊢; omega)]
            have hs := list_seg_step cs.toList (off + k) c l (by simp at hk ⊢; omega)
            have e1 : off + (k + 1) = off + k + 1 := by omega
            unfold splice
            rw [e1, Array.toList_setIfInBounds]
            simpa using hs
        have hfold : v.cells.zipIdx.foldl (fun cs (c, j) => cs.setIfInBounds (off + j) c) ys = (splice ys.toList off v.cells.toList).toArray := by
          apply Array.ext'
          have e0 : v.cells.zipIdx.foldl (fun cs (c, j) => cs.setIfInBounds (off + j) c) ys = (v.cells.toList.zipIdx 0).foldl (fun cs (c, j) => cs.setIfInBounds (off + j) c) ys := by
            rw [← Array.foldl_toList, Array.toList_zipIdx]
          rw [e0]
          have := fold v.cells.toList 0 ys (by simp at hlen ⊢; omega)
          simpa using this
        obtain ⟨zs, hz, hl⟩ := fill_parts place ps qs (splice xs off u.cells.toList) (splice ys.toList off v.cells.toList).toArray out hP' (by simpa using hL.splice hcv off) h
        refine ⟨zs, ?_, hl⟩
        simp only [Instr.fill, hp]
        rw [if_neg (by simp at hlen ⊢; omega), hfold]
        exact hz
      · cases h

theorem placesOf_ok (w : World) : ∀ {fs : List (Nat × TypeId)} {ps : List (Nat × Nat)} (F : List Field), placesOf P fs = some ps → fs = F.map (fun f => (f.offset, f.type)) →
    (F.mapM fun f => (do pure (f.offset, ← Go.sizeOf f.type) : Go.Sem (Nat × Nat))).run P w = .ok ps w
  | [], ps, [], h, _ => by simp [placesOf] at h; subst h; simp
  | [], ps, f :: F, _, e => by simp at e
  | (q, ft) :: fs, ps, [], _, e => by simp at e
  | (q, ft) :: fs, ps, f :: F, h, e => by
    simp at e
    obtain ⟨⟨rfl, rfl⟩, e2⟩ := e
    simp only [placesOf] at h
    cases h1 : ti P f.type with
    | none => simp [h1] at h
    | some I =>
      cases h2 : placesOf P fs with
      | none => simp [h1, h2] at h
      | some rest =>
        simp [h1, h2] at h
        subst h
        have ih := placesOf_ok w F h2 e2
        simp only [Sem.run_bind, Sem.run_pure, Sem.run_map, bind_pure_comp] at ih ⊢
        simp [List.mapM_cons, (ti_ok h1).sizeOf, ih]

theorem s_build (R : Rel base ρ H w) (hT : TR ρ H.next w t tmps) (e : TypeId) (parts : Array (Nat × Operand)) : OutS P ⟨dst, .build e parts, ty, pos, af, gd⟩ tmps base ρ H w (evalOp P t H (.build e parts)) := by
  unfold evalOp
  refine .bind fun I hI => .bind fun ps hps => .bind fun pl hpl => .bind fun cs hcs => ?_
  have K := ti_ok hI
  obtain ⟨i, z, hi, hz, _, _, hzz, _, _⟩ := K.info
  have hP := evp_ok hT hps
  have hL : L1 ρ H.next w I.zero z.cells.toList := by rw [hzz]; exact L1.self (fun v hv => K.flat v (by rw [hzz]; exact hv))
  obtain ⟨zs, hf, h1⟩ := fill_parts pl ps _ _ _ _ hP hL hcs
  refine .keep R (v' := .agg zs) ?_ (by simpa using h1.vr)
  have hpm : (parts.map fun p => (p.1, Act.eval ⟨tmps, []⟩ p.2)).toList = parts.toList.map fun p => (p.1, Act.eval ⟨tmps, []⟩ p.2) := by simp
  unfold placeT at hpl
  split at hpl
  · rename_i fs hd
    cases hpo : placesOf P fs with
    | none => simp [hpo] at hpl
    | some pp =>
      simp [hpo] at hpl
      subst hpl
      obtain ⟨A, hu, hA⟩ := K.struct hd
      have hm := placesOf_ok w A.toList hpo hA
      have hm' : (A.mapM fun f => (do pure (f.offset, ← Go.sizeOf f.type) : Go.Sem (Nat × Nat))).run P w = .ok pp.toArray w := by
        rw [Array.mapM_eq_mapM_toList]
        simp only [Sem.run_map, hm, Result.andThen_ok]
      have hfe : (fun i : Nat => pp.toArray[i]?) = fun i : Nat => pp[i]? := by funext i; simp
      simp only [execOp, Instr.build, Sem.run_bind, zeroValue, typeInfo, run_program, hi, hz, Result.andThen_ok, Sem.run_pure, run_underlying hu, hm', hpm, hfe, hf]
  · rename_i n e' hd
    cases hE : ti P e' with
    | none => simp [hE] at hpl
    | some E =>
      simp [hE] at hpl
      subst hpl
      have hu := K.array hd
      simp only [execOp, Instr.build, Sem.run_bind, zeroValue, typeInfo, run_program, hi, hz, Result.andThen_ok, Sem.run_pure, run_underlying hu, (ti_ok hE).sizeOf, hpm, hf]
  · cases hpl

theorem madeCells_zeros (z : Array Value) : ∀ n : Nat, 0 < z.size → (madeCells z (n * z.size)).toList = zeros n z.toList
  | 0, _ => by simp [madeCells, zeros]
  | n + 1, h => by
    have ih := madeCells_zeros z n h
    unfold zeros at ih ⊢
    rw [List.replicate_succ', List.flatten_append, ← ih]
    unfold madeCells
    rw [Nat.succ_mul]
    simp only [Array.toList_map, Array.toList_range, List.flatten_cons, List.flatten_nil, List.append_nil]
    rw [List.range_add, List.map_append]
    congr 1
    apply List.ext_getElem
    · simp
    · intro j h1 h2
      simp at h1 h2
      have : (n * z.size + j) % z.size = j := by rw [Nat.add_comm, Nat.add_mul_mod_self_right, Nat.mod_eq_of_lt h1]
      simp [this, h1]

theorem zeros_length (n : Nat) (z : List Value) : (zeros n z).length = n * z.length := by simp [zeros]

theorem zeros_flat {n : Nat} {z : List Value} (h : ∀ v ∈ z, scal v = true) : ∀ v ∈ zeros n z, scal v = true := by
  intro v hv
  unfold zeros at hv
  obtain ⟨l, hl, hv2⟩ := List.mem_flatten.1 hv
  obtain ⟨_, rfl⟩ := List.mem_replicate.1 hl
  exact h v hv2

/-- The cells of a made row: what the machine lays is what the evaluator says. -/
theorem made_ok {e : TypeId} {E : TI} (K : TIOK P e E) (n : Nat) : ∃ i z, P.info? e = some i ∧ i.zero = some z ∧ E.size = i.size ∧ E.bytes = i.bytes ∧ (madeCells z.cells (n * i.size)).toList = zeros n E.zero := by
  obtain ⟨i, z, hi, hz, hs, hb, hzz, _, hsz⟩ := K.info
  refine ⟨i, z, hi, hz, hs, hb, ?_⟩
  rw [hzz, ← hsz]
  rcases Nat.eq_zero_or_pos z.cells.size with h0 | h0
  · have : z.cells.toList = [] := by simpa using h0
    rw [this, h0]
    simp [madeCells, zeros]
  · exact madeCells_zeros z.cells n h0

theorem vr_new_sl (R : Rel base ρ H w) (cs : Array Value) (e : TypeId) (r : Row) (n k c z : Nat) (hn : n ≤ c) (hc : cs.size = c * z) : VR (ren ρ H.next w.heap.size) (H.push r).next (w.alloc (.cells cs e)) (.slice (some ⟨H.next, 0, some z⟩) n k) (.slice (some ⟨w.heap.size, 0, none⟩) n c) := by
  have h := VR.one (V1.slu (ρ := ren ρ H.next w.heap.size) (nx := H.next + 1) (w := w.alloc (.cells cs e)) H.next 0 n k z ⟨ren ρ H.next w.heap.size H.next, 0, none⟩ c (Nat.lt_succ_self _) hn
    (.inl ⟨rfl, by
      rw [ren_new, ← hc]
      unfold bsz
      have : (w.alloc (.cells cs e)).heap[w.heap.size]? = some (.cells cs e) := by
        show (w.heap.push _)[w.heap.size]? = _
        simp
      rw [this]
      simp⟩))
  rw [ren_new] at h
  exact h

theorem fillL_length (place : Nat → Option (Nat × Nat)) : ∀ (ps : List (Nat × Value)) (xs out : List Value), fillL place xs ps = some out → out.length = xs.length
  | [], xs, out, h => by simp [fillL] at h; rw [h]
  | (i, v) :: ps, xs, out, h => by
    simp only [fillL] at h
    cases hp : place i with
    | none => simp [hp] at h
    | some pq =>
      simp only [hp, Option.bind_some] at h
      split at h
      · rename_i hc
        rw [fillL_length place ps _ out h, splice_length _ _ _ (by have := hc.2.1; have := hc.1; simp; omega)]
      · cases h

theorem s_makeSlice (R : Rel base ρ H w) (hT : TR ρ H.next w t tmps) (e : TypeId) (l c : Operand) : OutS P ⟨dst, .makeSlice e l c, ty, pos, af, gd⟩ tmps base ρ H w (evalOp P t H (.makeSlice e l c)) := by
  unfold evalOp
  refine .bind fun I hI => .slt fun e' hd => .bind fun E hE => .bind fun vl hvl => .bind fun vc hvc => .int fun k n hn => .int fun k' m hm => ?_
  rintro ⟨h0, h1, h2, h3⟩
  subst hn; subst hm
  have el := (evo_ok hT hvl).int
  have ec := (evo_ok hT hvc).int
  obtain ⟨i, z, hi, hz, hs, hb, hmade⟩ := made_ok (ti_ok hE) m.toNat
  have hbytes : (i.bytes : Int) * m ≤ 281474976710656 := by
    have : (i.bytes : Int) ≤ 65536 := by omega
    calc (i.bytes : Int) * m ≤ 65536 * m := Int.mul_le_mul_of_nonneg_right this (by omega)
      _ ≤ 281474976710656 := by omega
  have hrun := run_make (P := P) w e e' i z ((ti_ok hI).slice hd) hi hz k k' n m h0 h1 hbytes (by omega)
  have hL : L1 ρ H.next w (zeros m.toNat E.zero) (madeCells z.cells (m.toNat * i.size)).toList := by
    rw [hmade]; exact L1.self (zeros_flat (ti_ok hE).flat)
  obtain ⟨R', X⟩ := push_new R e' hL
  have hsz : (madeCells z.cells (m.toNat * i.size)).size = m.toNat * E.size := by
    have := congrArg List.length hmade
    simp only [Array.length_toList, zeros_length] at this
    rw [this, (ti_ok hE).len]
  exact ⟨_, _, _, by simp [execOp, el, ec, hrun], R', X, vr_new_sl R _ _ _ _ _ _ _ (by omega) hsz⟩

theorem s_buildSlice (R : Rel base ρ H w) (hT : TR ρ H.next w t tmps) (e : TypeId) (len : Nat) (parts : Array (Nat × Operand)) : OutS P ⟨dst, .buildSlice e len parts, ty, pos, af, gd⟩ tmps base ρ H w (evalOp P t H (.buildSlice e len parts)) := by
  unfold evalOp
  refine .bind fun I hI => .slt fun e' hd => .bind fun E hE => .bind fun ps hps => .bind fun cs hcs => ?_
  intro hsz
  obtain ⟨i, z, hi, hz, hs, hb, hmade⟩ := made_ok (ti_ok hE) len
  have hP := evp_ok hT hps
  have hL : L1 ρ H.next w (zeros len E.zero) (madeCells z.cells (len * i.size)).toList := by
    rw [hmade]; exact L1.self (zeros_flat (ti_ok hE).flat)
  obtain ⟨zs, hf, h1⟩ := fill_parts _ ps _ _ _ _ hP hL hcs
  obtain ⟨R', X⟩ := push_new R e' h1
  have hzsz : zs.size = len * E.size := by
    have h2 := h1.1
    have h3 := fillL_length _ _ _ _ hcs
    rw [zeros_length, (ti_ok hE).len] at h3
    simp at h2; omega
  refine ⟨_, _, _, ?_, R', X, vr_new_sl R _ _ _ _ _ len _ (Nat.le_refl _) hzsz⟩
  have hu := (ti_ok hI).slice hd
  have hpm : (parts.map fun p => (p.1, Act.eval ⟨tmps, []⟩ p.2)).toList = parts.toList.map fun p => (p.1, Act.eval ⟨tmps, []⟩ p.2) := by simp
  have n1 : ¬ (len * i.size > 2 ^ 24) := by rw [← hs]; omega
  rw [hs] at hf
  unfold madeCells at hf
  by_cases h00 : len * i.size = 0
  · rw [h00] at hf
    simp only [Array.range_zero', Array.map_empty] at hf
    have hr0 : ∀ f : Nat → Value, (Array.range 0).map f = #[] := fun f => by simp [Array.range_zero']
    simp only [execOp, Instr.buildSlice, Sem.run_bind, run_underlying hu, Go.sizeOf, typeInfo, run_program, hi, Result.andThen_ok, Sem.run_pure, Sem.run_ite, h00, hpm, hr0, hf]
    simp [newRow]
  · simp only [execOp, Instr.buildSlice, Sem.run_bind, run_underlying hu, Go.sizeOf, typeInfo, run_program, hi, Result.andThen_ok, Sem.run_pure, Sem.run_ite, n1, h00, if_false, zeroValue, hz, hpm, hf]
    simp [newRow]
end
end Go.Abs
