/- The small logic, fourth text: operators, slices, built-in functions and calls; then code and whole functions. No program is named here. -/
import Derived.Test.YtbmpkihggipciaaAbs3
set_option linter.unusedSimpArgs false
set_option linter.unusedVariables false
namespace Go.Abs
open Go Go.RowKit

section
variable {P : Program} {base : Nat} {ρ : Nat → Nat} {H : AH} {w : World} {t : T} {tmps : Array Value} {dst : Option Tmp} {ty : TypeId} {pos : String} {af : Array Edge} {gd : Option (Nat × Bool)}

theorem eqGuard_int (op : BinOp) (e : TypeId) (x y : Operand) (k : IntKind) (a : Int) (b : Value) : (eqGuard op e x y (.int k a) b).run P w = .ok () w := by
  cases op <;> simp [eqGuard]
theorem eqGuard_bool (op : BinOp) (e : TypeId) (x y : Operand) (a : Bool) (b : Value) : (eqGuard op e x y (.bool a) b).run P w = .ok () w := by
  cases op <;> simp [eqGuard]
theorem eqGuard_str (op : BinOp) (e : TypeId) (x y : Operand) (a : ByteArray) (b : Value) : (eqGuard op e x y (.string a) b).run P w = .ok () w := by
  cases op <;> simp [eqGuard]
theorem eqGuard_sl (op : BinOp) (e : TypeId) (x y : Operand) (a : Option Addr) (n c : Nat) (b : Value) : (eqGuard op e x y (.slice a n c) b).run P w = .ok () w := by
  cases op <;> simp [eqGuard]

theorem run_eq_bool (w : World) (e : TypeId) (p q : Bool) (h : P.underlying e = some .bool) : (binOp .eql e (.bool p) (.bool q)).run P w = .ok (.bool (p == q)) w := by
  simp only [binOp]
  simp [Op.equal, Op.maxDepth, run_equalIn_bool w 9999 e p q h]
theorem run_ne_bool (w : World) (e : TypeId) (p q : Bool) (h : P.underlying e = some .bool) : (binOp .neq e (.bool p) (.bool q)).run P w = .ok (.bool (!(p == q))) w := by
  simp only [binOp]
  simp [Op.equal, Op.maxDepth, run_equalIn_bool w 9999 e p q h]

theorem s_binI (R : Rel base ρ H w) {o : Oper} (op : BinOp) (k : IntKind) (a b : Int)
    (e : TypeId) (hr : ∀ v, (binOp op e (.int k a) (.int k b)).run P w = .ok v w → (execOp (Act.eval ⟨tmps, []⟩) o).run P w = .ok (.value v) w) (hs : op ≠ .shl ∧ op ≠ .shr) :
    OutS P o tmps base ρ H w (binI op k a b H) := by
  unfold binI
  split
  all_goals first
    | exact .keep R (hr _ (by simp [binOp, Op.intArith, Op.intBits, Op.intCmp])) (VR.scal rfl)
    | (intro h0; exact .keep R (hr _ (by simp [binOp, Op.intDiv, h0])) (VR.scal rfl))
    | trivial

theorem s_binOp (R : Rel base ρ H w) (hT : TR ρ H.next w t tmps) (op : BinOp) (e e2 : TypeId) (x y : Operand) : OutS P ⟨dst, .binOp op e x y e2, ty, pos, af, gd⟩ tmps base ρ H w (evalOp P t H (.binOp op e x y e2)) := by
  unfold evalOp
  refine .bind fun I hI => .bind fun a ha => .bind fun b hb => ?_
  have hA := evo_ok hT ha
  have hB := evo_ok hT hb
  have K := ti_ok hI
  unfold binE
  split
  · rename_i k p k' q
    have ea := hA.int
    have eb := hB.int
    split
    · intro h0
      refine .keep R ?_ (VR.scal rfl)
      have : ¬ q < 0 := by omega
      simp [execOp, ea, eb, eqGuard_int, binOp, Op.shift, this]
    · intro h0
      refine .keep R ?_ (VR.scal rfl)
      have : ¬ q < 0 := by omega
      simp [execOp, ea, eb, eqGuard_int, binOp, Op.shift, this]
    · rename_i op' h1 h2
      intro hk
      subst hk
      refine s_binI R op k p q e (fun v hv => ?_) ⟨fun e => h1 e, fun e => h2 e⟩
      simp [execOp, ea, eb, eqGuard_int, hv]
  · rename_i p q
    have ea := hA.bool
    have eb := hB.bool
    split
    · rename_i hd
      refine .keep R ?_ (VR.scal rfl)
      simp [execOp, ea, eb, eqGuard_bool, run_eq_bool w e p q (K.bool hd)]
    · rename_i hd
      refine .keep R ?_ (VR.scal rfl)
      simp [execOp, ea, eb, eqGuard_bool, run_ne_bool w e p q (K.bool hd)]
    · trivial
  · rename_i p q
    have ea := hA.str
    have eb := hB.str
    split
    · intro h0
      refine .keep R ?_ (VR.scal rfl)
      have : ¬ (9223372036854775807 < ((p.size : Int) + (q.size : Int))) := by omega
      simp [execOp, ea, eb, eqGuard_str, binOp, Op.stringOp, this]
    · refine .keep R ?_ (VR.scal rfl)
      simp [execOp, ea, eb, eqGuard_str, binOp, Op.stringOp]
    · refine .keep R ?_ (VR.scal rfl)
      simp [execOp, ea, eb, eqGuard_str, binOp, Op.stringOp]
    · trivial
  · rename_i n c q n' c'
    obtain ⟨rfl, rfl, ea⟩ := hA.nils
    have hq : ∃ q' m k, Act.eval ⟨tmps, []⟩ y = .slice q' m k ∧ q'.isNone = q.isNone := by
      cases q with
      | none => obtain ⟨_, _, eb⟩ := hB.nils; exact ⟨_, _, _, eb, rfl⟩
      | some qa =>
        obtain ⟨i, o', s⟩ := qa
        cases s with
        | none => obtain ⟨_, eb⟩ := hB.sle; exact ⟨_, _, _, eb, rfl⟩
        | some z => obtain ⟨_, _, _, eb, _⟩ := hB.slu; exact ⟨_, _, _, eb, rfl⟩
    obtain ⟨q', m, k, eb, hq⟩ := hq
    split
    · rename_i e' hd
      refine .keep R ?_ (VR.scal rfl)
      simp [execOp, ea, eb, eqGuard_sl, run_eql_nil_slice w e e' q' m k 0 0 (K.slice hd), hq]
    · rename_i e' hd
      refine .keep R ?_ (VR.scal rfl)
      simp [execOp, ea, eb, eqGuard_sl, run_neq_nil_slice w e e' q' m k 0 0 (K.slice hd), hq]
    · trivial
  · rename_i qa n c n' c'
    obtain ⟨_, _, eb⟩ := hB.nils
    have hq : ∃ q' m k, Act.eval ⟨tmps, []⟩ x = .slice (some q') m k := by
      obtain ⟨i, o', s⟩ := qa
      cases s with
      | none => obtain ⟨_, eb⟩ := hA.sle; exact ⟨_, _, _, eb⟩
      | some z => obtain ⟨_, _, _, eb, _⟩ := hA.slu; exact ⟨_, _, _, eb⟩
    obtain ⟨q', m, k, ea⟩ := hq
    split
    · rename_i e' hd
      refine .keep R ?_ (VR.scal rfl)
      simp [execOp, ea, eb, eqGuard_sl, Lib.run_eql_slice_nil w e e' (some q') m k 0 0 (K.slice hd)]
    · rename_i e' hd
      refine .keep R ?_ (VR.scal rfl)
      simp [execOp, ea, eb, eqGuard_sl, run_neq_slice_nil_any w e e' (some q') m k 0 0 (K.slice hd)]
    · trivial
  · trivial

/-! ### Slices -/
def OI (tmps : Array Value) (x : Option Operand) (n : Option Int) : Prop :=
  (x = none ∧ n = none) ∨ ∃ y k m, x = some y ∧ Act.eval ⟨tmps, []⟩ y = .int k m ∧ n = some m

theorem OutS.oi {o : Oper} (hT : TR ρ H.next w t tmps) {x : Option Operand} {f : Option Int → Out} (h : ∀ n, OI tmps x n → OutS P o tmps base ρ H w (f n)) : OutS P o tmps base ρ H w (oI t x f) := by
  unfold oI
  split
  · exact h none (.inl ⟨rfl, rfl⟩)
  · rename_i y
    refine .bind fun v hv => .int fun k n hn => ?_
    subst hn
    exact h (some n) (.inr ⟨y, k, n, rfl, (evo_ok hT hv).int, rfl⟩)

theorem run_bounds (isS : Bool) (len cap : Nat) {lo hi mx : Option Operand} {l h m : Option Int} (hl : OI tmps lo l) (hh : OI tmps hi h) (hm : OI tmps mx m)
    (hmh : ¬ (m.isSome = true ∧ h.isSome = false)) (h0 : 0 ≤ l.getD 0) (h1 : l.getD 0 ≤ h.getD len) (h2 : h.getD len ≤ m.getD cap) (h3 : m.getD cap ≤ cap) :
    (Instr.sliceBounds isS len cap (lo.map (Act.eval ⟨tmps, []⟩)) (hi.map (Act.eval ⟨tmps, []⟩)) (mx.map (Act.eval ⟨tmps, []⟩))).run P w =
      .ok ((l.getD 0).toNat, (h.getD len).toNat, (m.getD cap).toNat) w := by
  rcases hl with ⟨rfl, rfl⟩ | ⟨yl, kl, nl, rfl, el, rfl⟩ <;> rcases hh with ⟨rfl, rfl⟩ | ⟨yh, kh, nh, rfl, eh, rfl⟩ <;> rcases hm with ⟨rfl, rfl⟩ | ⟨ym, km, nm, rfl, em, rfl⟩ <;>
    simp only [Option.getD_some, Option.getD_none, Option.isSome_some, Option.isSome_none, Bool.false_eq_true, and_false, not_true, and_self, and_true, Option.map_some, Option.map_none] at *
  all_goals first
    | (exfalso; exact hmh)
    | skip
  · simp [Instr.sliceBounds]
  · have e1 : (nh.toNat : Int) = nh := Int.toNat_of_nonneg (by omega)
    simp [Instr.sliceBounds, eh, run_sliceBound (P := P) w kh nh cap _ (by omega) (by omega)]
  · have e1 : (nm.toNat : Int) = nm := Int.toNat_of_nonneg (by omega)
    simp [Instr.sliceBounds, eh, em, run_sliceBound (P := P) w km nm cap _ (by omega) (by omega), run_sliceBound (P := P) w kh nh nm.toNat _ (by omega) (by omega)]
  · simp [Instr.sliceBounds, el, run_sliceBound (P := P) w kl nl len _ (by omega) (by omega)]
  · have e1 : (nh.toNat : Int) = nh := Int.toNat_of_nonneg (by omega)
    simp [Instr.sliceBounds, el, eh, run_sliceBound (P := P) w kh nh cap _ (by omega) (by omega), run_sliceBound (P := P) w kl nl nh.toNat _ (by omega) (by omega)]
  · have e1 : (nm.toNat : Int) = nm := Int.toNat_of_nonneg (by omega)
    have e2 : (nh.toNat : Int) = nh := Int.toNat_of_nonneg (by omega)
    simp [Instr.sliceBounds, el, eh, em, run_sliceBound (P := P) w km nm cap _ (by omega) (by omega), run_sliceBound (P := P) w kh nh nm.toNat _ (by omega) (by omega), run_sliceBound (P := P) w kl nl nh.toNat _ (by omega) (by omega)]

theorem run_slice' {e e' : TypeId} {E : TI} (hu : P.underlying e = some (.slice e')) (K : TIOK P e' E) (a : Option Addr) (len cap : Nat) (lo hi mx : Option Value) {l h m : Nat}
    (hb : (Instr.sliceBounds true len cap lo hi mx).run P w = .ok (l, h, m) w) :
    (Instr.sliceAt e (.slice a len cap) lo hi mx).run P w = .ok (.slice (if m = l then a else a.map (·.add (l * E.size))) (h - l) (m - l)) w := by
  simp only [Instr.sliceAt, Instr.slice, Sem.run_bind, run_underlying hu, Result.andThen_ok, hb, K.sizeOf, Sem.run_pure]

theorem s_slice (R : Rel base ρ H w) (hT : TR ρ H.next w t tmps) (e : TypeId) (x : Operand) (lo hi mx : Option Operand) : OutS P ⟨dst, .slice e x lo hi mx, ty, pos, af, gd⟩ tmps base ρ H w (evalOp P t H (.slice e x lo hi mx)) := by
  simp only [evalOp]
  refine .bind fun I hI => .bind fun v hv => ?_
  have hA := evo_ok hT hv
  split
  · rename_i e' hd
    refine .bind fun E hE => .oi hT fun l hl => .oi hT fun h hh => .oi hT fun m hm => ?_
    have hu := (ti_ok hI).slice hd
    have K := ti_ok hE
    unfold sliceE
    split
    · trivial
    · rename_i hmh
      refine .sl (fun n c hn => ?_) fun i o u n c hs => ?_
      · rintro ⟨h0, h1, h2⟩
        subst hn
        obtain ⟨rfl, rfl, ev⟩ := hA.nils
        have hb := run_bounds (P := P) (w := w) true 0 0 hl hh hm hmh (by omega) (by rcases hh with ⟨_, rfl⟩ | ⟨_, _, q, _, _, rfl⟩ <;> simp at h1 ⊢ <;> omega)
          (by rcases hh with ⟨_, rfl⟩ | ⟨_, _, q, _, _, rfl⟩ <;> rcases hm with ⟨_, rfl⟩ | ⟨_, _, q', _, _, rfl⟩ <;> simp at h1 h2 ⊢ <;> omega) (by rcases hm with ⟨_, rfl⟩ | ⟨_, _, q, _, _, rfl⟩ <;> simp at h2 ⊢ <;> omega)
        have hr := run_slice' (P := P) (w := w) hu K none 0 0 _ _ _ hb
        refine .keep R (v' := .slice none 0 0) ?_ (VR.scal rfl)
        have z1 : (h.getD ((0 : Nat) : Int)).toNat - (l.getD 0).toNat = 0 := by rcases hh with ⟨_, rfl⟩ | ⟨_, _, q, _, _, rfl⟩ <;> simp at h1 ⊢ <;> omega
        have z2 : (m.getD ((0 : Nat) : Int)).toNat - (l.getD 0).toNat = 0 := by rcases hm with ⟨_, rfl⟩ | ⟨_, _, q, _, _, rfl⟩ <;> simp at h2 ⊢ <;> omega
        simp only [execOp, ev, Sem.run_bind, hr, Result.andThen_ok, Sem.run_pure, z1, z2, Option.map_none, ite_self]
      · subst hs
        cases u with
        | none =>
          rintro ⟨h0, h1, h2, h3⟩
          obtain ⟨hi', ev⟩ := hA.sle
          have hb := run_bounds (P := P) (w := w) true n c hl hh hm hmh h0 h1 h2 h3
          have hr := run_slice' (P := P) (w := w) hu K (some ⟨ρ i, o, none⟩) n c _ _ _ hb
          refine .keep R (v' := .slice (some ⟨ρ i, if m.getD c = l.getD 0 then o else o + (l.getD 0).toNat * E.size, none⟩) ((h.getD n).toNat - (l.getD 0).toNat) ((m.getD c).toNat - (l.getD 0).toNat)) ?_ (.one (.sle _ _ _ _ hi'))
          simp only [execOp, ev, Sem.run_bind, hr, Result.andThen_ok, Sem.run_pure, Option.map_some, Addr.add_lit]
          have : ((m.getD c).toNat = (l.getD 0).toNat) ↔ (m.getD c = l.getD 0) := by omega
          by_cases hml : m.getD c = l.getD 0
          · rw [if_pos (this.2 hml), if_pos hml]
          · rw [if_neg (fun q => hml (this.1 q)), if_neg hml]
        | some z =>
          obtain ⟨hi', o', c', ev, hnc, hoff⟩ := hA.slu
          cases m with
          | none =>
            rintro ⟨h0, h1, h2, h3⟩
            have hb := run_bounds (P := P) (w := w) true n c' hl hh hm hmh h0 h1 (by simp; omega) (by simp)
            have hr := run_slice' (P := P) (w := w) hu K (some o') n c' _ _ _ hb
            simp only [Option.getD_none, Int.toNat_natCast] at hr
            have hx : ∃ o2, (execOp (Act.eval ⟨tmps, []⟩) ⟨dst, .slice e x lo hi mx, ty, pos, af, gd⟩).run P w = .ok (.value (.slice (some o2) ((h.getD n).toNat - (l.getD 0).toNat) (c' - (l.getD 0).toNat))) w ∧
                ((o2 = ⟨ρ i, o + (l.getD 0).toNat * E.size, none⟩ ∧ bsz w (ρ i) = some (o + (l.getD 0).toNat * E.size + (c' - (l.getD 0).toNat) * z)) ∨ ((h.getD n).toNat - (l.getD 0).toNat = 0 ∧ 0 < o + (l.getD 0).toNat * E.size)) := by
              by_cases hml : c' = (l.getD 0).toNat
              · refine ⟨o', ?_, ?_⟩
                · simp only [execOp, ev, Sem.run_bind, hr, Result.andThen_ok, Sem.run_pure, if_pos hml]
                · rcases hoff with ⟨rfl, hb2⟩ | ⟨hn0, ho⟩
                  · by_cases hz : (l.getD 0).toNat * E.size = 0
                    · left
                      rw [hb2, ← hml, h3]
                      rw [hml, hz]
                      simp
                    · right
                      constructor
                      · omega
                      · omega
                  · right; constructor
                    · omega
                    · omega
              · refine ⟨o'.add ((l.getD 0).toNat * E.size), ?_, ?_⟩
                · simp only [execOp, ev, Sem.run_bind, hr, Result.andThen_ok, Sem.run_pure, if_neg hml, Option.map_some]
                · rcases hoff with ⟨rfl, hb2⟩ | ⟨hn0, ho⟩
                  · left
                    refine ⟨Addr.add_lit .., ?_⟩
                    rw [hb2, h3, Nat.sub_mul]
                    have hle : (l.getD 0).toNat * E.size ≤ c' * E.size := Nat.mul_le_mul_right _ (by omega)
                    congr 1
                    omega
                  · right; constructor
                    · omega
                    · omega
            obtain ⟨o2, hrun, hcond⟩ := hx
            exact .keep R hrun (.one (.slu _ _ _ _ _ _ _ hi' (by omega) hcond))
          | some mm =>
            rintro ⟨h0, h1, h2, h3, h4⟩
            have ho : o' = ⟨ρ i, o, none⟩ := by
              rcases hoff with ⟨h, _⟩ | ⟨h, _⟩
              · exact h
              · omega
            subst ho
            have hb := run_bounds (P := P) (w := w) true n c' hl hh hm hmh h0 h1 (by simpa using h2) (by simp; omega)
            have hr := run_slice' (P := P) (w := w) hu K (some ⟨ρ i, o, none⟩) n c' _ _ _ hb
            simp only [Option.getD_some] at hr
            refine .keep R (v' := .slice (some ⟨ρ i, if mm = l.getD 0 then o else o + (l.getD 0).toNat * E.size, none⟩) ((h.getD n).toNat - (l.getD 0).toNat) (mm.toNat - (l.getD 0).toNat)) ?_ (.one (.sle _ _ _ _ hi'))
            simp only [execOp, ev, Sem.run_bind, hr, Result.andThen_ok, Sem.run_pure, Option.map_some, Addr.add_lit]
            have : (mm.toNat = (l.getD 0).toNat) ↔ (mm = l.getD 0) := by omega
            by_cases hml : mm = l.getD 0
            · rw [if_pos (this.2 hml), if_pos hml]
            · rw [if_neg (fun q => hml (this.1 q)), if_neg hml]
  · rename_i hd
    split
    · rename_i hmx
      refine .str fun s hs => .oi hT fun l hl => .oi hT fun h hh => ?_
      rintro ⟨h0, h1, h2⟩
      subst hs
      have ev := hA.str
      have hm : OI tmps mx none := .inl ⟨by simpa using hmx, rfl⟩
      have hb := run_bounds (P := P) (w := w) false s.size s.size hl hh hm (by simp) h0 h1 (by simpa using h2) (by simp)
      have hu := (ti_ok hI).str hd
      obtain rfl : mx = none := by simpa using hmx
      refine .keep R ?_ (VR.scal rfl)
      simp only [Option.map_none] at hb
      simp only [execOp, ev, Instr.sliceAt, Instr.slice, Sem.run_bind, run_underlying hu, Result.andThen_ok, Option.map_none, Option.isSome_none, Bool.false_eq_true, if_false, Sem.run_pure, hb]
    · trivial
  · rename_i n e' hd
    refine .bind fun E hE => ?_
    split
    · rename_i hmx
      refine .ptr fun i o hp => .oi hT fun l hl => .oi hT fun h hh => ?_
      rintro ⟨h0, h1, h2⟩
      subst hp
      obtain ⟨hi', _, ev⟩ := hA.ptr
      have hm : OI tmps mx none := .inl ⟨by simpa using hmx, rfl⟩
      have hb := run_bounds (P := P) (w := w) false n n hl hh hm (by simp) h0 h1 (by simpa using h2) (by simp)
      have hu := (ti_ok hI).array hd
      refine .keep R (v' := .slice (some ⟨ρ i, if (n : Int) = l.getD 0 then o else o + (l.getD 0).toNat * E.size, none⟩) ((h.getD n).toNat - (l.getD 0).toNat) (n - (l.getD 0).toNat)) ?_ (.one (.sle _ _ _ _ hi'))
      simp only [Option.getD_none, Int.toNat_natCast] at hb
      simp only [execOp, ev, Instr.sliceAt, Sem.run_bind, run_underlying hu, Result.andThen_ok, Instr.sureAddr, Sem.run_pure, hb, (ti_ok hE).sizeOf, Addr.add_lit]
      have : (n = (l.getD 0).toNat) ↔ ((n : Int) = l.getD 0) := by omega
      by_cases hml : (n : Int) = l.getD 0
      · rw [if_pos (this.2 hml), if_pos hml]
      · rw [if_neg (fun q => hml (this.1 q)), if_neg hml]
    · trivial
  · trivial
end
end Go.Abs
