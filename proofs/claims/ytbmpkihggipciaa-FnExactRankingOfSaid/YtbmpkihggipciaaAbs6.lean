/- The small logic, sixth text: calls, regions, loops, whole functions: what the weakest condition says is what the machine does. No program is named here. -/
import Derived.Test.YtbmpkihggipciaaAbs5
set_option linter.unusedSimpArgs false
set_option linter.unusedVariables false
namespace Go.Abs
open Go Go.RowKit

section
variable {P : Program} {base : Nat} {ρ : Nat → Nat} {H : AH} {w : World} {t : T} {tmps : Array Value} {dst : Option Tmp} {ty : TypeId} {pos : String} {af : Array Edge} {gd : Option (Nat × Bool)}

theorem s_call (R : Rel base ρ H w) (hT : TR ρ H.next w t tmps) (c : Call) : OutS P ⟨dst, .call c, ty, pos, af, gd⟩ tmps base ρ H w (evalOp P t H (.call c)) := by
  obtain ⟨callee, args, argTypes⟩ := c
  cases callee with
  | value f =>
    simp only [evalOp]
    refine .bind fun fv hf => .bind fun vs hvs => .fn fun g cap hg => ?_
    subst hg
    obtain ⟨_, ys, ev, hsz, hys⟩ := (evo_ok hT hf).func
    have hL := evs_ok hT hvs
    refine ⟨(args.toList.map (Act.eval ⟨tmps, []⟩)) ++ ys.toList, ?_, hL.append (LV.of1 ⟨by simpa using hsz, fun j x y hx hy => hys j x y (by simpa using hx) (by simpa using hy)⟩)⟩
    have e : (args.toList.map (Act.eval ⟨tmps, []⟩) ++ ys.toList).toArray = args.map (Act.eval ⟨tmps, []⟩) ++ ys := by
      apply Array.ext'; simp
    rw [e]
    simp [execOp, resolve, ev, Deferred.ofValue, invoke]
  | invoke r m => trivial
  | builtin b =>
    simp only [evalOp]
    refine .bind fun vs hvs => ?_
    have hL := evs_ok hT hvs
    unfold builtE
    split
    · rename_i t0 v hat
      refine .bind fun I hI => ?_
      have hat' : argTypes = #[t0] := by apply Array.ext'; simpa using hat
      have hlen := hL.1
      obtain ⟨x, hx⟩ : ∃ x, args.toList = [x] := by
        simp only [List.length_map, List.length_cons, List.length_nil] at hlen
        match h : args.toList, hlen with
        | [x], _ => exact ⟨x, rfl⟩
      have hargs : args = #[x] := by apply Array.ext'; simpa using hx
      have hv := hL.2 0 v (Act.eval ⟨tmps, []⟩ x) (by simp) (by simp [hx])
      subst hat'
      subst hargs
      have K := ti_ok hI
      split
      · rename_i n e hd
        refine .keep R ?_ (VR.scal rfl)
        simp [execOp, resolve, invoke, builtin, Builtin.len_, run_underlying (K.array hd), goInt]
      · rename_i e hd
        refine .sl (fun n c hs => ?_) fun i q s n c hs => ?_
        · subst hs
          obtain ⟨_, _, ev⟩ := hv.nils
          refine .keep R ?_ (VR.scal rfl)
          simp [execOp, resolve, invoke, builtin, Builtin.len_, run_underlying (K.slice hd), ev, goInt]
        · subst hs
          refine .keep R ?_ (VR.scal rfl)
          cases s with
          | none =>
            obtain ⟨_, ev⟩ := hv.sle
            simp [execOp, resolve, invoke, builtin, Builtin.len_, run_underlying (K.slice hd), ev, goInt]
          | some z =>
            obtain ⟨_, _, _, ev, _⟩ := hv.slu
            simp [execOp, resolve, invoke, builtin, Builtin.len_, run_underlying (K.slice hd), ev, goInt]
      · rename_i hd
        refine .str fun s hs => ?_
        subst hs
        have ev := hv.str
        refine .keep R ?_ (VR.scal rfl)
        simp [execOp, resolve, invoke, builtin, Builtin.len_, run_underlying (K.str hd), ev, goInt]
      · trivial
    · rename_i t0 t1 s x hat
      intro h01
      subst h01
      refine .bind fun I hI => .slt fun e hd => .bind fun E hE => ?_
      have hat' : argTypes = #[t1, t1] := by apply Array.ext'; simpa using hat
      have hlen := hL.1
      obtain ⟨a, b, hab⟩ : ∃ a b, args.toList = [a, b] := by
        simp only [List.length_map, List.length_cons, List.length_nil] at hlen
        match h : args.toList, hlen with
        | [a, b], _ => exact ⟨a, b, rfl⟩
      have hargs : args = #[a, b] := by apply Array.ext'; simpa using hab
      have hv := hL.2 0 s (Act.eval ⟨tmps, []⟩ a) (by simp) (by simp [hab])
      have hx := hL.2 1 x (Act.eval ⟨tmps, []⟩ b) (by simp) (by simp [hab])
      subst hat'
      subst hargs
      refine s_append (ty := ty) R ((ti_ok hI).slice hd) (ti_ok hE) hv hx fun v w' hr => ?_
      simp [execOp, resolve, invoke, builtin, hr]
    · trivial

theorem evalOp_ok (R : Rel base ρ H w) (hT : TR ρ H.next w t tmps) (op : Op) : OutS P ⟨dst, op, ty, pos, af, gd⟩ tmps base ρ H w (evalOp P t H op) := by
  cases op with
  | move x => exact s_move R hT x
  | assign x => exact s_assign R hT x
  | pick c a b => exact s_pick R hT c a b
  | alloc e => exact s_alloc R e
  | box e x => exact s_box R hT e x
  | build e ps => exact s_build R hT e ps
  | buildSlice e n ps => exact s_buildSlice R hT e n ps
  | load e a => exact s_load R hT e a
  | store e a x => exact s_store R hT e a x
  | nilCheck x => exact s_nilCheck R hT x
  | binOp op e x y e2 => exact s_binOp R hT op e e2 x y
  | unOp op e x => exact s_unOp R hT op e x
  | convert s d x => exact s_convert R hT s d x
  | makeFunc fn f c => exact s_makeFunc R hT fn f c
  | makeSlice e l c => exact s_makeSlice R hT e l c
  | slice e x lo hi mx => exact s_slice R hT e x lo hi mx
  | fieldAddr e x f => exact s_fieldAddr R hT e x f
  | field e x f => exact s_field R hT e x f
  | indexAddr e x i => exact s_indexAddr R hT e x i
  | index e x i => exact s_index R hT e x i
  | extract x i => exact s_extract R hT x i
  | call c => exact s_call R hT c
  | _ => trivial

theorem callable_run {f : FuncId} (h : callable P f = true) (args : Array Value) (w : World) : (callFunc f args).run P w = .ok (.enter f args) w := by
  unfold callable at h
  split at h
  · rename_i fn hf
    simp only [Bool.and_eq_true, Bool.not_eq_true', Option.isSome_iff_ne_none, ne_eq] at h
    obtain ⟨h1, h2⟩ := h
    have hn : fn.body.isNone = false := by cases hb : fn.body <;> simp_all
    unfold callFunc
    simp only [Sem.run_bind, run_program, Result.andThen_ok, hf, h2, hn]
    rfl
  · cases h

theorem TR.ext {ρ' : Nat → Nat} {nx nx' : Nat} {w' : World} (h : TR ρ nx w t tmps) (E : Ext base ρ nx w ρ' nx' w') : TR ρ' nx' w' t tmps := fun i => (h i).ext E

theorem TR.put {nx : Nat} (h : TR ρ nx w t tmps) {v v' : Value} (hv : VR ρ nx w v v') (d : Option Tmp) (hd : ∀ i, d = some i → i < tmps.size) :
    TR ρ nx w (updO t d v) ((Act.put ⟨tmps, []⟩ d v').tmps) := by
  cases d with
  | none => exact h
  | some i =>
    have hi := hd i rfl
    intro j
    simp only [updO, upd, Act.put, Array.getD_eq_getD_getElem?, Array.getElem?_setIfInBounds]
    by_cases e : j = i
    · subst e
      simp [hi]; exact hv
    · have e' : ¬ i = j := fun q => e q.symm
      simp only [e, e', if_false]
      have := h j
      simpa [Array.getD_eq_getD_getElem?] using this

theorem put_size (d : Option Tmp) (v : Value) : (Act.put ⟨tmps, []⟩ d v).tmps.size = tmps.size := by cases d <;> simp [Act.put]
theorem put_eta (d : Option Tmp) (v : Value) : Act.put ⟨tmps, []⟩ d v = ⟨(Act.put ⟨tmps, []⟩ d v).tmps, []⟩ := by cases d <;> rfl

theorem runOut_ok (R : Rel base ρ H w) (o : Oper) (next : Act → World → Prop) (QC : Exit → Act → World → Prop) {K : Value → AH → Prop}
    (hn : ∀ v v' H' ρ' w', K v H' → Rel base ρ' H' w' → Ext base ρ H.next w ρ' H'.next w' → VR ρ' H'.next w' v v' → next (Act.put ⟨tmps, []⟩ o.dst v') w') :
    ∀ out, OutS P o tmps base ρ H w out → runOut P H out K → o.wp P ⟨tmps, []⟩ w next QC
  | .val v H', ⟨v', w', ρ', hr, R', E, hV⟩, hK => by
    unfold Oper.wp; rw [hr]; exact hn v v' H' ρ' w' hK R' E hV
  | .unit H', ⟨w', ρ', hr, R', E⟩, hK => by
    unfold Oper.wp; rw [hr]; exact hn undef undef H' ρ' w' hK R' E VR.undef
  | .call f args, ⟨args', hr, hL⟩, hK => by
    unfold Oper.wp
    obtain ⟨hc, hcall⟩ := hK
    rw [hr, callable_run hc]
    refine (hcall base ρ w args' R hL).mono ?_
    rintro e w' ⟨v', v, H', ρ', rfl, hK', R', hV, E⟩
    exact hn v v' H' ρ' w' hK' R' E hV
  | .need p out, hS, hK => runOut_ok R o next QC hn out (hS hK.1) hK.2
  | .stuck, _, hK => hK.elim

theorem ops_ok (all : List Oper) (ops : Array Oper) (hall : ops.toList = all) (Q : T → AH → Prop) (QC : Exit → Act → World → Prop) :
    ∀ (os : List Oper) (t : T) (H : AH) (ρ : Nat → Nat) (w : World) (tmps : Array Value), awpOps P all Q os t H → St base ρ t H tmps w →
      (∀ o ∈ os, ∀ i, o.dst = some i → i < tmps.size) →
      (∀ t' H' ρ' w' tmps', Q t' H' → St base ρ' t' H' tmps' w' → Ext base ρ H.next w ρ' H'.next w' → tmps'.size = tmps.size → QC .normal ⟨tmps', []⟩ w') →
      wpList P ops QC os ⟨tmps, []⟩ w
  | [], t, H, ρ, w, tmps, h, hS, _, hQ => hQ t H ρ w tmps h hS (Ext.refl _ _ _ _) rfl
  | o :: os, t, H, ρ, w, tmps, h, hS, hd, hQ => by
    have hgo : ∀ v v' H' ρ' w', awpOps P all Q os (updO t o.dst v) H' → Rel base ρ' H' w' → Ext base ρ H.next w ρ' H'.next w' → VR ρ' H'.next w' v v' →
        wpList P ops QC os (Act.put ⟨tmps, []⟩ o.dst v') w' := by
      intro v v' H' ρ' w' hK R' E hV
      rw [put_eta]
      refine ops_ok all ops hall Q QC os _ H' ρ' w' _ hK ⟨R', (hS.2.ext E).put hV o.dst (hd o (by simp))⟩ (fun o' ho' i hi => by rw [put_size]; exact hd o' (by simp [ho']) i hi) ?_
      intro t' H'' ρ'' w'' tmps' hq hs he hz
      exact hQ t' H'' ρ'' w'' tmps' hq hs (E.trans he) (by rw [hz, put_size])
    have hrun : runOut P H (evalOp P t H o.op) (fun v H' => awpOps P all Q os (updO t o.dst v) H') → o.wp P ⟨tmps, []⟩ w (wpList P ops QC os) QC := by
      intro hr
      obtain ⟨dst, op, ty, pos, af, gd⟩ := o
      exact runOut_ok hS.1 _ _ QC (fun v v' H' ρ' w' hK R' E hV => hgo v v' H' ρ' w' hK R' E hV) _ (evalOp_ok hS.1 hS.2 op) hr
    have hskip : awpOps P all Q os (updO t o.dst undef) H → wpList P ops QC os (Act.put ⟨tmps, []⟩ o.dst undef) w :=
      fun hs => hgo undef undef H ρ w hs hS.1 (Ext.refl _ _ _ _) VR.undef
    unfold wpList
    unfold awpOps at h
    cases hg : o.guard with
    | none =>
      rw [hg] at h
      rw [if_pos (by simp [Region.wanted, hg])]
      exact .inl (hrun h)
    | some g =>
      rw [hg] at h
      obtain ⟨j, want⟩ := g
      simp only at h
      have hw : Region.wanted o (yielded ops tmps) = (yielded ops tmps j == some want) := by simp [Region.wanted, hg]
      have hget : ops[j]? = all[j]? := by rw [← hall]; simp
      have hyb : ∀ b, gv all t j = .bool b → yielded ops tmps j = some b := by
        intro b hb
        unfold gv at hb
        unfold yielded
        rw [hget]
        cases hd2 : (all[j]?).bind (·.dst) with
        | none => rw [hd2] at hb; cases hb
        | some d =>
          rw [hd2] at hb
          simp only at hb
          have h1 := hS.2 d
          rw [hb] at h1
          have h2 := h1.bool
          have h3 : tmps[d]? = some (.bool b) := by
            rw [Array.getD_eq_getD_getElem?] at h2
            cases h4 : tmps[d]? with
            | none => rw [h4] at h2; cases h2
            | some u => rw [h4] at h2; simp at h2; rw [h2]
          simp [h3]
      have hyn : ∀ xs, gv all t j = .tuple xs → yielded ops tmps j = none := by
        intro xs hb
        unfold gv at hb
        unfold yielded
        rw [hget]
        cases hd2 : (all[j]?).bind (·.dst) with
        | none => rfl
        | some d =>
          rw [hd2] at hb
          simp only at hb
          have h1 := hS.2 d
          rw [hb] at h1
          obtain ⟨ys, h2, _⟩ := h1.tuples
          rw [Array.getD_eq_getD_getElem?] at h2
          cases h4 : tmps[d]? with
          | none => simp [h4]
          | some u => rw [h4] at h2; simp at h2; simp [h4, h2]
      rw [hw]
      unfold condW at h
      split at h
      · rename_i b hb
        rw [hyb b hb]
        by_cases e : b = want
        · rw [if_pos e] at h; subst e; simp only [beq_self_eq_true, if_true]; exact .inl (hrun h)
        · rw [if_neg e] at h
          rw [if_neg (by simpa using e)]
          exact hskip h
      · rename_i xs hb
        rw [hyn xs hb]
        split at h
        · rw [if_neg (by simp)]
          exact hskip h
        · exact h.elim
      · exact h.elim

/-! ### Code -/
theorem awp_ok : ∀ (c : Code) (Q : Exit → T → AH → Prop) (t : T) (H : AH), awp P c Q t H → Sem P c Q t H
  | .skip, Q, t, H, h => fun base ρ w tmps QC hS hd hQ => wp_skip (hQ _ t H ρ w tmps h hS (Ext.refl _ _ _ _) rfl)
  | .exit id, Q, t, H, h => fun base ρ w tmps QC hS hd hQ => wp_exit (hQ _ t H ρ w tmps h hS (Ext.refl _ _ _ _) rfl)
  | .ret, Q, t, H, h => fun base ρ w tmps QC hS hd hQ => wp_ret (hQ _ t H ρ w tmps h hS (Ext.refl _ _ _ _) rfl)
  | .region id ops false, Q, t, H, h => fun base ρ w tmps QC hS hd hQ => by
    refine wp_region_list (ops_ok ops.toList ops rfl (Q .normal) QC ops.toList t H ρ w tmps h hS ?_ fun t' H' ρ' w' tmps' hq hs he hz => hQ _ t' H' ρ' w' tmps' hq hs he hz)
    intro o ho i hi
    have := List.all_eq_true.1 hd o ho
    simp only [hi, decide_eq_true_eq] at this
    exact this
  | .region id ops true, Q, t, H, h => fun base ρ w tmps QC hS hd hQ => by
    refine h base ρ w tmps QC hS hd fun e t' H' ρ' w' tmps' hq hs he hz => ?_
    cases e with
    | normal => exact hQ _ t' H' ρ' w' tmps' hq hs he hz
    | _ => exact hq.elim
  | .seq a b, Q, t, H, h => fun base ρ w tmps QC hS hd hQ => by
    have hd' : dstB tmps.size a = true ∧ dstB tmps.size b = true := by simpa [dstB] using hd
    refine wp_seq (awp_ok a _ t H h base ρ w tmps _ hS hd'.1 fun e t' H' ρ' w' tmps' hq hs he hz => ?_)
    cases e with
    | normal =>
      refine awp_ok b Q t' H' hq base ρ' w' tmps' QC hs (hz ▸ hd'.2) fun e2 t2 H2 ρ2 w2 tmps2 hq2 hs2 he2 hz2 => ?_
      exact hQ e2 t2 H2 ρ2 w2 tmps2 hq2 hs2 (he.trans he2) (hz2.trans hz)
    | _ => exact hQ _ t' H' ρ' w' tmps' hq hs he hz
  | .cond c a b, Q, t, H, h => fun base ρ w tmps QC hS hd hQ => by
    have hd' : dstB tmps.size a = true ∧ dstB tmps.size b = true := by simpa [dstB] using hd
    unfold awp condC at h
    split at h
    · rename_i q hc
      have hv := (evo_ok hS.2 hc).bool
      refine wp_cond hv ?_
      cases q
      · simp only [Bool.false_eq_true, if_false] at h ⊢
        exact awp_ok b Q t H h base ρ w tmps QC hS hd'.2 hQ
      · simp only [if_true] at h ⊢
        exact awp_ok a Q t H h base ρ w tmps QC hS hd'.1 hQ
    · exact h.elim
  | .block id c, Q, t, H, h => fun base ρ w tmps QC hS hd hQ => by
    refine wp_block (awp_ok c _ t H h base ρ w tmps _ hS (by simpa [dstB] using hd) fun e t' H' ρ' w' tmps' hq hs he hz => ?_)
    cases e with
    | exit i =>
      simp only [blockQ] at hq
      simp only [Exit.inBlock]
      by_cases e : i = id
      · rw [if_pos e] at hq ⊢; exact hQ _ t' H' ρ' w' tmps' hq hs he hz
      · rw [if_neg e] at hq ⊢; exact hQ _ t' H' ρ' w' tmps' hq hs he hz
    | _ => exact hQ _ t' H' ρ' w' tmps' hq hs he hz
  | .loop c, Q, t, H, h => fun base ρ w tmps QC hS hd hQ => by
    obtain ⟨I, ⟨n, hI⟩, hround⟩ := h
    intro b k cs
    have key : ∀ n t' H' ρ' w' tmps', I n t' H' → St base ρ' t' H' tmps' w' → Ext base ρ H.next w ρ' H'.next w' → tmps'.size = tmps.size →
        ∃ e a' w2, QC e a' w2 ∧ Arrives P (lone (b.at ⟨tmps', []⟩ (.code c :: .inLoop c :: k)) cs w') b k cs e a' w2 := by
      intro n
      induction n using Nat.strongRecOn with
      | _ n ih =>
        intro t' H' ρ' w' tmps' hI hS' hE hz
        have hb := awp_ok c _ t' H' (hround n t' H' hI) base ρ' w' tmps'
          (Exit.then (fun a2 w2 => ∃ m t2 H2 ρ2 tmps2, m < n ∧ a2 = ⟨tmps2, []⟩ ∧ I m t2 H2 ∧ St base ρ2 t2 H2 tmps2 w2 ∧ Ext base ρ H.next w ρ2 H2.next w2 ∧ tmps2.size = tmps.size) QC) hS' (hz ▸ (by simpa [dstB] using hd))
          (fun e t2 H2 ρ2 w2 tmps2 hq hs he hz2 => by
            cases e with
            | normal =>
              obtain ⟨m, hm, hIm⟩ := hq
              exact ⟨m, t2, H2, ρ2, tmps2, hm, rfl, hIm, hs, hE.trans he, hz2.trans hz⟩
            | _ => exact hQ _ t2 H2 ρ2 w2 tmps2 hq hs (hE.trans he) (hz2.trans hz))
        obtain ⟨e, a₁, w₁, hq, harr⟩ := hb b (.inLoop c :: k) cs
        cases e with
        | normal =>
          obtain ⟨m, t2, H2, ρ2, tmps2, hm, rfl, hIm, hs, hE2, hz2⟩ := hq
          obtain ⟨e₂, a₂, w₂, hq₂, harr₂⟩ := ih m hm t2 H2 ρ2 w₁ tmps2 hIm hs hE2 hz2
          exact ⟨e₂, a₂, w₂, hq₂, .of_steps (Steps.trans harr (.one step_inLoop)) harr₂⟩
        | exit id => exact ⟨_, a₁, w₁, hq, .pass (x := .inLoop c) rfl (fun _ _ => .inl (by simp)) harr⟩
        | goto l => exact ⟨_, a₁, w₁, hq, .pass (x := .inLoop c) rfl (fun _ _ => .inl (by simp)) harr⟩
        | ret => exact ⟨_, a₁, w₁, hq, .pass (x := .inLoop c) rfl (fun _ _ => .inl (by simp)) harr⟩
        | panic ch => exact ⟨_, a₁, w₁, hq, .pass (x := .inLoop c) rfl (fun _ _ => .inl (by simp)) harr⟩
        | outgrown => exact ⟨_, a₁, w₁, hq, .pass (x := .inLoop c) rfl (fun _ _ => .inl (by simp)) harr⟩
    obtain ⟨e, a', w2, hq, harr⟩ := key n t H ρ w tmps hI hS (Ext.refl _ _ _ _) rfl
    exact ⟨e, a', w2, hq, .of_steps (.one step_loop) harr⟩
  | .rangeFunc .., _, _, _, h => h.elim
  | .scope .., _, _, _, h => h.elim
  | .label .., _, _, _, h => h.elim
  | .goto .., _, _, _, h => h.elim
  | .refuse .., _, _, _, h => h.elim

/-! ### Functions -/
theorem res1_ok (R : Rel base ρ H w) (hT : TR ρ H.next w t tmps) (r : ResultVar) (v : Value) (h : res1 P t H r = some v) :
    ∃ v', (match r with | .tmp t => (pure (tmps.getD t undef) : Go.Sem Value) | .cell a t => do loadVar t (← asAddr (tmps.getD a undef))).run P w = .ok v' w ∧ VR ρ H.next w v v' := by
  cases r with
  | tmp i => simp [res1] at h; subst h; exact ⟨_, rfl, hT i⟩
  | cell a e =>
    simp only [res1] at h
    cases hI : ti P e with
    | none => simp [hI] at h
    | some I =>
      simp only [hI, Option.bind_some] at h
      split at h
      · rename_i i o hp
        cases hr : H.row i with
        | none => simp [hr] at h
        | some r =>
          simp only [hr, Option.bind_some] at h
          have hv := hT a
          rw [hp] at hv
          obtain ⟨_, _, ev⟩ := hv.ptr
          split at h
          · rename_i hd
            split at h
            · rename_i hn
              cases h
              obtain ⟨ys, hl, h1⟩ := run_loadVar' R (ti_ok hI) hd hr hn.1 (.inl hn.2)
              exact ⟨_, by simp only [Sem.run_bind, ev, asAddr, Sem.run_pure, Result.andThen_ok, hl], h1.vr⟩
            · cases h
          · rename_i hd
            split at h
            · rename_i hrw
              obtain ⟨v', hl, h1⟩ := run_loadVar1 R (ti_ok hI) (by simpa using hd) hr h (.inl hrw)
              exact ⟨_, by simp only [Sem.run_bind, ev, asAddr, Sem.run_pure, Result.andThen_ok, hl], .one h1⟩
            · cases h
      · cases h

theorem resL_ok (R : Rel base ρ H w) (hT : TR ρ H.next w t tmps) : ∀ (rs : List ResultVar) (vs : List Value), resL P t H rs = some vs →
    ∃ vs' : List Value, (rs.mapM fun (r : ResultVar) => (match r with | .tmp t => (pure (tmps.getD t undef) : Go.Sem Value) | .cell a t => do loadVar t (← asAddr (tmps.getD a undef)))).run P w = .ok vs' w ∧ LV ρ H.next w vs vs'
  | [], vs, h => by simp [resL] at h; subst h; exact ⟨[], by simp, LV.nil⟩
  | r :: rs, vs, h => by
    simp only [resL] at h
    cases h1 : res1 P t H r with
    | none => simp [h1] at h
    | some v =>
      cases h2 : resL P t H rs with
      | none => simp [h1, h2] at h
      | some us =>
        simp [h1, h2] at h
        subst h
        obtain ⟨v', hv, hV⟩ := res1_ok R hT r v h1
        obtain ⟨us', hu, hU⟩ := resL_ok R hT rs us h2
        refine ⟨v' :: us', ?_, LV.cons hV hU⟩
        simp only [List.mapM_cons, Sem.run_bind, hv, Result.andThen_ok, hu, Sem.run_pure]

theorem results_ok (R : Rel base ρ H w) (hT : TR ρ H.next w t tmps) {fn : Func} {v : Value} (h : resV P fn.results.toList t H = some v) :
    ∃ v', (results fn tmps).run P w = .ok v' w ∧ VR ρ H.next w v v' := by
  unfold resV at h
  cases h1 : resL P t H fn.results.toList with
  | none => simp [h1] at h
  | some vs =>
    simp [h1] at h
    subst h
    obtain ⟨vs', hv, hV⟩ := resL_ok R hT _ _ h1
    have hm : (fn.results.mapM fun (r : ResultVar) => (match r with | .tmp t => (pure (tmps.getD t undef) : Go.Sem Value) | .cell a t => do loadVar t (← asAddr (tmps.getD a undef)))).run P w = .ok vs'.toArray w := by
      rw [Array.mapM_eq_mapM_toList]
      simp only [Sem.run_map, hv, Result.andThen_ok]
    refine ⟨pack vs', ?_, ?_⟩
    · unfold results
      rw [Sem.run_bind]
      refine (congrArg (fun r : Result (Array Value) => r.andThen fun a w' => Sem.run P (pure (if h : a.size = 1 then a[0] else Value.tuple a)) w') hm).trans ?_
      simp only [Result.andThen_ok, Sem.run_pure]
      congr 1
      match vs' with
      | [] => rfl
      | [x] => rfl
      | x :: y :: l => simp [pack]
    · match vs, vs', hV with
      | [], [], h => exact LV.vr h
      | [x], [y], h => exact h.2 0 x y rfl rfl
      | x :: x2 :: l, y :: y2 :: l', h => exact LV.vr h
      | [], _ :: _, h => exact absurd h.1 (by simp)
      | [x], [], h => exact absurd h.1 (by simp)
      | [x], _ :: _ :: _, h => exact absurd h.1 (by simp)
      | _ :: _ :: _, [], h => exact absurd h.1 (by simp)
      | _ :: _ :: _, [_], h => exact absurd h.1 (by simp)
end

theorem acalls_of_awp {P : Program} {f : FuncId} {fn : Func} {c : Code} {args : List Value} {H : AH} {R : Value → AH → Prop} (rs : List ResultVar)
    (hf : P.funcs[f]? = some fn) (hcl : callable P f = true) (hb : fn.body = some c) (hr : fn.results.toList = rs) (hn : args.length ≤ fn.ntmps) (hd : dstB fn.ntmps c = true)
    (h : awp P c (retQ P rs R) (init args) H) : ACalls P f args H R := by
  refine ⟨hcl, fun base ρ w args' hRel hL => ?_⟩
  have hsz : (args'.toArray ++ Array.replicate (fn.ntmps - args'.toArray.size) undef).size = fn.ntmps := by
    have := hL.1; simp; omega
  refine calls_of_wp hf hb (awp_ok c _ _ H h base ρ w _ _ ⟨hRel, fun i => ?_⟩ (by rw [hsz]; exact hd) fun e t' H' ρ' w' tmps' hq hs he hz => ?_)
  · unfold init
    by_cases hi : i < args.length
    · have hi' : i < args'.length := by rw [← hL.1]; exact hi
      have h1 : args.getD i undef = args[i] := by simp [hi]
      have h2 : (args'.toArray ++ Array.replicate (fn.ntmps - args'.toArray.size) undef).getD i undef = args'[i] := by
        rw [Array.getD_eq_getD_getElem?, Array.getElem?_append_left (by simpa using hi')]
        simp [hi']
      rw [h1, h2]
      exact hL.2 i _ _ (List.getElem?_eq_getElem hi) (List.getElem?_eq_getElem hi')
    · have h1 : args.getD i undef = undef := by simp [Nat.le_of_not_lt hi]
      have h2 : (args'.toArray ++ Array.replicate (fn.ntmps - args'.toArray.size) undef).getD i undef = undef := by
        rw [Array.getD_eq_getD_getElem?, Array.getElem?_append_right (by have := hL.1; simp; omega)]
        cases h3 : (Array.replicate (fn.ntmps - args'.toArray.size) undef)[i - args'.toArray.size]? with
        | none => rfl
        | some u =>
          simp only [Array.getElem?_replicate] at h3
          split at h3
          · cases h3; rfl
          · cases h3
      rw [h1, h2]
      exact VR.undef
  · have fin : ∀ v, resV P rs t' H' = some v → R v H' → (⟨tmps', []⟩ : Act).defers = [] ∧ ∃ v', (results fn (⟨tmps', []⟩ : Act).tmps).run P w' = .ok v' w' ∧
        (∃ v2 v3 H2 ρ2, Ending.returned v' = .returned v2 ∧ R v3 H2 ∧ Rel base ρ2 H2 w' ∧ VR ρ2 H2.next w' v3 v2 ∧ Ext base ρ H.next w ρ2 H2.next w') := by
      intro v hv hR
      subst hr
      obtain ⟨v', hrun, hV⟩ := results_ok hs.1 hs.2 hv
      exact ⟨rfl, v', hrun, v', v, H', ρ', rfl, hR, hs.1, hV, he⟩
    cases e with
    | ret => obtain ⟨v, hv, hR⟩ := hq; exact fin v hv hR
    | normal => obtain ⟨v, hv, hR⟩ := hq; exact fin v hv hR
    | _ => exact hq.elim
end Go.Abs
