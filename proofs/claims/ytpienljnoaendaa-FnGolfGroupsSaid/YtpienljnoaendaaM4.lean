/- Draws: evenings with numbers, for laws. And what follows. -/
import Derived.Test.YtpienljnoaendaaM3
set_option linter.unusedSimpArgs false
set_option linter.unusedVariables false
section
set_option maxRecDepth 100000
set_option maxHeartbeats 2000000
namespace Go.Proofs.Ytpienljnoaendaa.A
open Go Go.Abs Go.RowKit
theorem codeUp {cv : Value} {nb : Nat} {H H' : AH} (h : CodeOk H cv nb) (k : ∀ i r, H.row i = some r → H'.row i = some r) : CodeOk H' cv nb := by
  rcases h with h | ⟨i, o, u, c, r, q1, q2, q3⟩
  · exact .inl h
  · exact .inr ⟨i, o, u, c, r, q1, k _ _ q2, q3⟩
end Go.Proofs.Ytpienljnoaendaa.A
end

section
set_option maxRecDepth 100000
set_option maxHeartbeats 2000000
namespace Go.Proofs.Ytpienljnoaendaa.A
open Go Go.Abs Go.RowKit
def BadG (lo : Nat) (cv : Value) (nb si : Nat) (H : AH) (v : Value) (H' : AH) : Prop :=
  ∃ (q g : Int) (u : Value) (ll : List (List Int)), v = .agg #[.int .i64 q, .int .i64 g, u] ∧ (0 ≤ q ∧ q ≤ 27) ∧ (-2 ≤ g ∧ g ≤ 25) ∧ (ll.length ≤ 7 ∧ ∀ r ∈ ll, r.length ≤ 1000) ∧ Dq cv nb si H H' [] ∧ ∀ H2, (∀ i r, lo ≤ i → i ≠ si → H'.row i = some r → H2.row i = some r) → Rg H2 u ll
theorem l08Bad_c (cv : Value) (nb si lo : Nat) (q g : Int) (u : Value) (ws : List Value) (ll : List (List Int)) (H : AH) (hq : 0 ≤ q ∧ q ≤ 25) (hg : 0 ≤ g ∧ g ≤ 25) (hll : GlL ll) (hlo : lo ≤ H.next) (hv : ∀ H', (∀ i r, lo ≤ i → i ≠ si → H.row i = some r → H'.row i = some r) → Rc u ws ll H') (hnb : nb ≤ 4611686018427387904) (hs : Src cv nb si H) (hc : CodeX cv nb si H) :
    ACalls Try.prog 56 [.pointer (some ⟨si, 0, none⟩), .agg #[.int .i64 q, .int .i64 g, u]] H (BadG lo cv nb si H) := by
  refine ACalls.wf (by kernel_rfl) fun hsc => acalls_of_awp [.cell 4 26] Try.func56 (by kernel_rfl) rfl rfl (Nat.le_of_ble_eq_true rfl) (by kernel_rfl) ?_
  obtain ⟨_, _, hrow, _⟩ := id hs
  have hsi := hsc _ _ hrow
  clear hrow
  have hone := (hv H fun _ _ _ _ h => h).rg.one
  have d0 := ((Dq.start hs hsc).push ⟨26, true, [.int .i64 q, .int .i64 g, u]⟩).push ⟨26, true, [.int .i64 0, .int .i64 0, .slice none 0 0]⟩
  have d0 : Dq cv nb si H ((H.push ⟨26, true, [.int .i64 q, .int .i64 g, u]⟩).push ⟨26, true, [.int .i64 0, .int .i64 0, .slice none 0 0]⟩) [.row H.next ⟨26, true, [.int .i64 q, .int .i64 g, u]⟩, .row (H.next + 1) ⟨26, true, [.int .i64 0, .int .i64 0, .slice none 0 0]⟩] := d0
  try simp (disch := first | omega | (simp only [L3] <;> omega)) only [Sall,evalOp,init,binA_s,binE,binI,unE,convE,okNil,builtE,gv,TD.isAgg,resV,↓reduceIte,Nat.reduceEqDiff,reduceCtorEq,Nat.reduceAdd,Nat.reduceMul,Nat.reduceLeDiff,quietOp,blindOp,Int.reduceEq,Int.reduceLT,Int.reduceLE,Nat.reduceLT,tiA,tiXA, hone]
  obtain ⟨pi, epi⟩ : ∃ pi, pi = H.next := ⟨_, rfl⟩
  rw [← epi] at d0 ⊢
  have npi : ¬ pi = si := by omega
  generalize (H.push ⟨26, true, [.int .i64 q, .int .i64 g, u]⟩).push ⟨26, true, [.int .i64 0, .int .i64 0, .slice none 0 0]⟩ = H1 at d0 ⊢
  refine (nextD 30 d0 hsi hc hsc hnb (by omega)).ex ?_
  rintro c H2 ⟨hc3, d1⟩
  refine Holds.mp ?_
  have g0 := d1.rowAt 0 rfl
  have g1 := d1.rowAt 1 rfl
  have npp : ¬ pi = pi + 1 := by omega
  have npp2 : ¬ pi + 1 = pi := by omega
  by_cases c0 : (c : Int) = 0
  · have f0 : ((c : Int) == 0) = true := beq_iff_eq.2 c0
    have zz4 : zeros 4 [.int .i64 0] = [.int .i64 0, .int .i64 0, .int .i64 0, .int .i64 0] := rfl
    simp (config := {maxSteps := 3000000}) (disch := first | omega | (simp only [L3] <;> omega)) only [Sall,evalOp,init,binA_s,binE,binI,unE,convE,okNil,builtE,gv,TD.isAgg,resV,↓reduceIte,Nat.reduceEqDiff,reduceCtorEq,Nat.reduceAdd,Nat.reduceMul,Nat.reduceLeDiff,quietOp,blindOp,Int.reduceEq,Int.reduceLT,Int.reduceLE,Nat.reduceLT,tiA,tiXA, f0, g0, g1, w64, zz4]
    refine (pickL [1, 26, 27, q + 1] 4 rfl (by omega) (by omega) d1 hsi hc hsc hnb).ex ?_
    rintro p H3 ⟨hp, d2⟩
    have hp2 : 0 ≤ p ∧ p ≤ 27 := by
      simp only [List.mem_cons, List.not_mem_nil, or_false] at hp
      omega
    have g0' := d2.rowAt 0 rfl
    have g1' := d2.rowAt 1 rfl
    refine Holds.mp ?_
    try simp (disch := first | omega | (simp only [L3] <;> omega)) only [Sall,evalOp,init,binA_s,binE,binI,unE,convE,okNil,builtE,gv,TD.isAgg,resV,↓reduceIte,Nat.reduceEqDiff,reduceCtorEq,Nat.reduceAdd,Nat.reduceMul,Nat.reduceLeDiff,quietOp,blindOp,Int.reduceEq,Int.reduceLT,Int.reduceLE,Nat.reduceLT,tiA,tiXA, g0', g1', hone, npp, npp2]
    have d3 := (d2.putRow 0 rfl (cs' := [.int .i64 p, .int .i64 g, u])).putRow 1 rfl (cs' := [.int .i64 p, .int .i64 g, u])
    exact ⟨p, g, u, ll, rfl, hp2, by omega, ⟨by have := hll.1; omega, hll.2⟩, Dq.left (L := []) d3, fun H2 h2 => (hv H2 fun i r hl hi hr => h2 i r hl hi (d3.old hsc i r hi hr)).rg⟩
  · have f0 : ((c : Int) == 0) = false := beq_eq_false_iff_ne.2 c0
    by_cases c1 : (c : Int) = 1
    · have f1 : ((c : Int) == 1) = true := beq_iff_eq.2 c1
      have hb : ∀ (t : T) (H : AH), evalOp Try.prog t H (.buildSlice 29 4 #[(0, .const (.int .i64 1)), (1, .const (.int .i64 0)), (2, .const (.int .i64 7)), (3, .const (.int .i64 (-2)))]) = .need (4 ≤ 16777216 ∧ 4 * 1 ≤ 16777216) (.val (.slice (some ⟨H.next, 0, some 1⟩) 4 4) (H.push ⟨2, true, ints [1, 0, 7, -2]⟩)) := fun t H => by kernel_rfl
      generalize (Op.buildSlice 29 4 #[(0, .const (.int .i64 1)), (1, .const (.int .i64 0)), (2, .const (.int .i64 7)), (3, .const (.int .i64 (-2)))]) = bop at hb ⊢
      simp (config := {maxSteps := 3000000}) (disch := first | omega | (simp only [L3] <;> omega)) only [Sall,evalOp,init,binA_s,binE,binI,unE,convE,okNil,builtE,gv,TD.isAgg,resV,↓reduceIte,Nat.reduceEqDiff,reduceCtorEq,Nat.reduceAdd,Nat.reduceMul,Nat.reduceLeDiff,quietOp,blindOp,Int.reduceEq,Int.reduceLT,Int.reduceLE,Nat.reduceLT,tiA,tiXA, f0, f1, ↓hb, g0, g1]
      refine (pickL [1, 0, 7, -2] 4 rfl (by omega) (by omega) d1 hsi hc hsc hnb).ex ?_
      rintro p H3 ⟨hp, d2⟩
      have hp2 : -2 ≤ p ∧ p ≤ 7 := by
        simp only [List.mem_cons, List.not_mem_nil, or_false] at hp
        omega
      have g0' := d2.rowAt 0 rfl
      have g1' := d2.rowAt 1 rfl
      refine Holds.mp ?_
      try simp (disch := first | omega | (simp only [L3] <;> omega)) only [Sall,evalOp,init,binA_s,binE,binI,unE,convE,okNil,builtE,gv,TD.isAgg,resV,↓reduceIte,Nat.reduceEqDiff,reduceCtorEq,Nat.reduceAdd,Nat.reduceMul,Nat.reduceLeDiff,quietOp,blindOp,Int.reduceEq,Int.reduceLT,Int.reduceLE,Nat.reduceLT,tiA,tiXA, g0', g1', hone, npp, npp2]
      have d3 := (d2.putRow 0 rfl (cs' := [.int .i64 q, .int .i64 p, u])).putRow 1 rfl (cs' := [.int .i64 q, .int .i64 p, u])
      exact ⟨q, p, u, ll, rfl, by omega, by omega, ⟨by have := hll.1; omega, hll.2⟩, Dq.left (L := []) d3, fun H2 h2 => (hv H2 fun i r hl hi hr => h2 i r hl hi (d3.old hsc i r hi hr)).rg⟩
    · have f1 : ((c : Int) == 1) = false := beq_eq_false_iff_ne.2 c1
      by_cases c2 : (c : Int) = 2
      · have f2 : ((c : Int) == 2) = true := beq_iff_eq.2 c2
        have zz0 : zeros 0 [.slice none 0 0] = [] := rfl
        have d2 := d1.map fun B o => o.pushSl (k := 1) (n := 0) (ty := 29) (vs := []) rfl
        have hwl : ws.length = ll.length := (hv H fun _ _ _ _ h => h).1.1
        have hl64 := hll.1
        have hv2 := hv _ fun i r _ => d2.old hsc i r
        have npi2 : ¬ pi = H2.next := by obtain ⟨B, b, o⟩ := id d1.ex; have := (o.rowAt 0 rfl).2.2; omega
        simp (config := {maxSteps := 3000000}) (disch := first | omega | (simp only [L3] <;> omega)) only [Sall,evalOp,init,binA_s,binE,binI,unE,convE,okNil,builtE,gv,TD.isAgg,resV,↓reduceIte,Nat.reduceEqDiff,reduceCtorEq,Nat.reduceAdd,Nat.reduceMul,Nat.reduceLeDiff,quietOp,blindOp,Int.reduceEq,Int.reduceLT,Int.reduceLE,Nat.reduceLT,tiA,tiXA, f0, f1, f2, g0, g1, hone, npi2, w64, zz0]
        obtain ⟨B2, b2, o2⟩ := id d2.ex
        refine o2.appWC 2 rfl hv2 rfl (by decide) (by omega) ?_
        intro v3 H3 n3 o3
        have o3 : Ow B2 H3 [.row pi ⟨26, true, [.int .i64 q, .int .i64 g, u]⟩, .row (pi + 1) ⟨26, true, [.int .i64 0, .int .i64 0, .slice none 0 0]⟩, .sl 1 29 v3 (0 + ws.length) ws] := o3
        have hv3 := o3.one 2 rfl
        have zi : zeros 3 [.int .i64 0] = [.int .i64 0, .int .i64 0, .int .i64 0] := rfl
        have zs1 : zeros 1 [.slice none 0 0] = [.slice none 0 0] := rfl
        have sp0 : splice ([.int .i64 0, .int .i64 0, .int .i64 0] : List Value) 0 [.int .i64 0] = [.int .i64 0, .int .i64 0, .int .i64 0] := rfl
        have sp1 : splice ([.int .i64 0, .int .i64 0, .int .i64 0] : List Value) 1 [.int .i64 1] = [.int .i64 0, .int .i64 1, .int .i64 0] := rfl
        have sp2 : splice ([.int .i64 0, .int .i64 1, .int .i64 0] : List Value) 2 [.int .i64 1] = [.int .i64 0, .int .i64 1, .int .i64 1] := rfl
        simp (config := {maxSteps := 3000000}) (disch := first | omega | (simp only [L3] <;> omega)) only [Sall,evalOp,init,binA_s,binE,binI,unE,convE,okNil,builtE,gv,TD.isAgg,resV,↓reduceIte,Nat.reduceEqDiff,reduceCtorEq,Nat.reduceAdd,Nat.reduceMul,Nat.reduceLeDiff,quietOp,blindOp,Int.reduceEq,Int.reduceLT,Int.reduceLE,Nat.reduceLT,tiA,tiXA, hv3, zi, zs1, sp0, sp1, sp2, slCells]
        have o4 := o3.pushSl (k := 1) (n := 3) (ty := 2) (vs := ints [0, 1, 1]) rfl
        refine (o4.tmp ⟨29, true, [.slice (some ⟨H3.next, 0, some 1⟩) 3 3]⟩).app 2 rfl rfl (by omega) rfl (by omega) (by decide) (by omega) ?_
        intro v5 H5 n5 o5
        have hv5 := o5.one 2 rfl
        have h0 := (o5.rowAt 0 rfl).1
        have h1 := (o5.rowAt 1 rfl).1
        simp (config := {maxSteps := 3000000}) (disch := first | omega | (simp only [L3] <;> omega)) only [Sall,evalOp,init,binA_s,binE,binI,unE,convE,okNil,builtE,gv,TD.isAgg,resV,↓reduceIte,Nat.reduceEqDiff,reduceCtorEq,Nat.reduceAdd,Nat.reduceMul,Nat.reduceLeDiff,quietOp,blindOp,Int.reduceEq,Int.reduceLT,Int.reduceLE,Nat.reduceLT,tiA,tiXA, hv3, hv5, h0, h1, npp, npp2]
        have d6 : Dq cv nb si H ((H5.setCells pi [.int .i64 q, .int .i64 g, v5]).setCells (pi + 1) [.int .i64 q, .int .i64 g, v5]) [.row pi ⟨26, true, [.int .i64 q, .int .i64 g, v5]⟩, .row (pi + 1) ⟨26, true, [.int .i64 q, .int .i64 g, v5]⟩, .sl 1 29 v5 (0 + ws.length + 1) (ws ++ [.slice (some ⟨H3.next, 0, some 1⟩) 3 3]), .sl 1 2 (.slice (some ⟨H3.next, 0, some 1⟩) 3 3) 3 (ints [0, 1, 1])] := ⟨⟨B2, b2, (o5.putRow 0 rfl (cs' := [.int .i64 q, .int .i64 g, v5])).putRow 1 rfl (cs' := [.int .i64 q, .int .i64 g, v5])⟩⟩
        refine ⟨q, g, v5, ll ++ [[0, 1, 1]], rfl, by omega, by omega, ⟨by simp; omega, fun r hr => ?_⟩, Dq.left (L := []) d6, fun H2 h2 => ?_⟩
        · rcases List.mem_append.1 hr with h | h
          · exact hll.2 r h
          · rw [List.mem_singleton] at h; rw [h]; decide
        · obtain ⟨S1, p1⟩ := d6.laterP hsi 2 rfl H2 fun i r hl => h2 i r (by omega)
          obtain ⟨S2, p2⟩ := d6.laterP hsi 3 rfl H2 fun i r hl => h2 i r (by omega)
          exact RowsC.rg ((hv H2 fun i r hl hi hr => h2 i r hl hi (d6.old hsc i r hi hr)).1.snoc (sl_rs p2)) p1
      · have f2 : ((c : Int) == 2) = false := beq_eq_false_iff_ne.2 c2
        simp (config := {maxSteps := 3000000}) (disch := first | omega | (simp only [L3] <;> omega)) only [Sall,evalOp,init,binA_s,binE,binI,unE,convE,okNil,builtE,gv,TD.isAgg,resV,↓reduceIte,Nat.reduceEqDiff,reduceCtorEq,Nat.reduceAdd,Nat.reduceMul,Nat.reduceLeDiff,quietOp,blindOp,Int.reduceEq,Int.reduceLT,Int.reduceLE,Nat.reduceLT,tiA,tiXA, f0, f1, f2, g0, g1, hone, npp, npp2]
        have d3 := d1.putRow 1 rfl (cs' := [.int .i64 q, .int .i64 g, u])
        exact ⟨q, g, u, ll, rfl, by omega, by omega, ⟨by have := hll.1; omega, hll.2⟩, Dq.left (L := []) d3, fun H2 h2 => (hv H2 fun i r hl hi hr => h2 i r hl hi (d3.old hsc i r hi hr)).rg⟩
def WithG (H : AH) (p : (Int × Int) × Value) (H' : AH) : Prop :=
  ∃ ll : List (List Int), (0 ≤ p.1.1 ∧ p.1.1 ≤ 27) ∧ (-2 ≤ p.1.2 ∧ p.1.2 ≤ 25) ∧ (ll.length ≤ 7 ∧ ∀ r ∈ ll, r.length ≤ 1000) ∧ (∀ H2, (∀ i r, H.next ≤ i → H'.row i = some r → H2.row i = some r) → Rg H2 p.2 ll) ∧ Ow H H' []
theorem ACalls.ex5 {P : Program} {f : FuncId} {args : List Value} {H : AH} {α β γ δ ε : Type} {g : α → β → γ → δ → ε → Value} {X : α → β → γ → δ → ε → AH → Prop} {R : Value → AH → Prop} (h : ACalls P f args H (fun v H' => ∃ a b c d e, v = g a b c d e ∧ X a b c d e H')) (k : ∀ a b c d e H', X a b c d e H' → R (g a b c d e) H') : ACalls P f args H R :=
  h.mono fun v H' hh => by obtain ⟨a, b, c, d, e, rfl, hx⟩ := hh; exact k _ _ _ _ _ _ hx
theorem l08Draw_c (cv : Value) (nb : Nat) (H : AH) (hnb : nb ≤ 4611686018427387904) (hc0 : CodeOk H cv nb) :
    ACalls Try.prog 40 [cv] H (fun r H' => ∃ p : (Int × Int) × Value, r = .agg #[.int .i64 p.1.1, .int .i64 p.1.2, p.2] ∧ WithG H p H') := by
  refine ACalls.wf (by kernel_rfl) fun hsc0 => acalls_of_awp [.cell 2 26] Try.func40 (by kernel_rfl) rfl rfl (Nat.le_of_ble_eq_true rfl) (by kernel_rfl) ?_
  have o1 := (Ow.refl hsc0).push ⟨26, true, [.int .i64 0, .int .i64 0, .slice none 0 0]⟩
  have hone := hc0.one
  have b0 := (o1.rowAt 0 rfl)
  try simp (disch := first | omega | (simp only [L3] <;> omega)) only [Sall,evalOp,init,binA_s,binE,binI,unE,convE,okNil,builtE,gv,TD.isAgg,resV,↓reduceIte,Nat.reduceEqDiff,reduceCtorEq,Nat.reduceAdd,Nat.reduceMul,Nat.reduceLeDiff,quietOp,blindOp,Int.reduceEq,Int.reduceLT,Int.reduceLE,Nat.reduceLT,tiA,tiXA, hone]
  generalize H.push ⟨26, true, [.int .i64 0, .int .i64 0, .slice none 0 0]⟩ = H1 at o1 b0 ⊢
  have hc1 : CodeOk H1 cv nb := codeUp hc0 (o1.old hsc0)
  refine (l01From_c cv nb H1 hnb hc1).fin ?_
  rintro H2 ⟨up2, hsc, hsi, hs⟩
  have hc := CodeX.of hc1 o1.sc up2
  refine Holds.mp ?_
  try simp (disch := first | omega | (simp only [L3] <;> omega)) only [Sall,evalOp,init,binA_s,binE,binI,unE,convE,okNil,builtE,gv,TD.isAgg,resV,↓reduceIte,Nat.reduceEqDiff,reduceCtorEq,Nat.reduceAdd,Nat.reduceMul,Nat.reduceLeDiff,quietOp,blindOp,Int.reduceEq,Int.reduceLT,Int.reduceLE,Nat.reduceLT,tiA,tiXA, true_and]
  refine ACalls.ex5 (g := fun (q g : Int) (u : Value) (_ : List Value) (_ : List (List Int)) => .agg #[.int .i64 q, .int .i64 g, u]) (l08DrawOf_c cv nb H1.next H2 hnb hs hc) ?_
  rintro q g u ws ll H3 ⟨hq, hg, hll, d1⟩
  have hv := d1.seesX hsi 0 rfl
  have hu := (hv H3 fun _ _ _ _ h => h).rg.one
  refine Holds.mp ?_
  try simp (disch := first | omega | (simp only [L3] <;> omega)) only [Sall,evalOp,init,binA_s,binE,binI,unE,convE,okNil,builtE,gv,TD.isAgg,resV,↓reduceIte,Nat.reduceEqDiff,reduceCtorEq,Nat.reduceAdd,Nat.reduceMul,Nat.reduceLeDiff,quietOp,blindOp,Int.reduceEq,Int.reduceLT,Int.reduceLE,Nat.reduceLT,tiA,tiXA, hu]
  refine ACalls.ex4 (g := fun (q g : Int) (u : Value) (_ : List (List Int)) => .agg #[.int .i64 q, .int .i64 g, u]) (l08Bad_c cv nb H1.next H2.next q g u ws ll H3 hq hg hll d1.le hv hnb (d1.src hsi) (d1.code hc hsc)) ?_
  rintro q' g' u' ll' H4 ⟨hq', hg', hll', d2, hr⟩
  have d3 := d1.bind hsi d2
  have hu' := (hr H4 fun _ _ _ _ h => h).one
  have g0 : H4.row H.next = some ⟨26, true, [.int .i64 0, .int .i64 0, .slice none 0 0]⟩ := by
    rw [d3.lowEq (by omega) (by omega), up2.row _ (by omega)]; exact b0.1
  refine Holds.mp ?_
  try simp (disch := first | omega | (simp only [L3] <;> omega)) only [Sall,evalOp,init,binA_s,binE,binI,unE,convE,okNil,builtE,gv,TD.isAgg,resV,↓reduceIte,Nat.reduceEqDiff,reduceCtorEq,Nat.reduceAdd,Nat.reduceMul,Nat.reduceLeDiff,quietOp,blindOp,Int.reduceEq,Int.reduceLT,Int.reduceLE,Nat.reduceLT,tiA,tiXA, hu', g0]
  have hle := d3.le
  refine ⟨((q', g'), u'), rfl, ll', hq', hg', hll', fun Hx hx => hr Hx fun i r hl hi hr => hx i r (by omega) ?_, Ow.of_up ⟨by show H.next ≤ H4.next; omega, fun i hi => ?_⟩ (d3.sc.set _ _)⟩
  · rw [AH.setCells_row, if_neg (by omega)]; exact hr
  · rw [AH.setCells_row, if_neg (by omega), d3.lowEq (by omega) (by omega), up2.row _ (by omega), o1.low _ hi]
theorem drawTidyRound_c (cv : Value) (nb : Nat) (H : AH) (hnb : nb ≤ 4611686018427387904) (hc0 : CodeOk H cv nb) :
    ACalls Try.prog 21 [cv] H (fun r H' => ∃ p : Int × ((Int × Int) × Value), r = .tuple #[.agg #[.int .i64 p.2.1.1, .int .i64 p.2.1.2, p.2.2], .int .i64 p.1] ∧ (-4611686018427387904 ≤ p.1 ∧ p.1 ≤ 1099511627776) ∧ WithG H p.2 H') := by
  refine ACalls.wf (by kernel_rfl) fun hsc0 => acalls_of_awp [.cell 2 26, .tmp 3] Try.func21 (by kernel_rfl) rfl rfl (Nat.le_of_ble_eq_true rfl) (by kernel_rfl) ?_
  have o1 := (Ow.refl hsc0).push ⟨26, true, [.int .i64 0, .int .i64 0, .slice none 0 0]⟩
  have hone := hc0.one
  have b0 := (o1.rowAt 0 rfl)
  try simp (disch := first | omega | (simp only [L3] <;> omega)) only [Sall,evalOp,init,binA_s,binE,binI,unE,convE,okNil,builtE,gv,TD.isAgg,resV,↓reduceIte,Nat.reduceEqDiff,reduceCtorEq,Nat.reduceAdd,Nat.reduceMul,Nat.reduceLeDiff,quietOp,blindOp,Int.reduceEq,Int.reduceLT,Int.reduceLE,Nat.reduceLT,tiA,tiXA, hone]
  generalize H.push ⟨26, true, [.int .i64 0, .int .i64 0, .slice none 0 0]⟩ = H1 at o1 b0 ⊢
  have hc1 : CodeOk H1 cv nb := codeUp hc0 (o1.old hsc0)
  refine (l01From_c cv nb H1 hnb hc1).fin ?_
  rintro H2 ⟨up2, hsc, hsi, hs⟩
  have hc := CodeX.of hc1 o1.sc up2
  refine Holds.mp ?_
  try simp (disch := first | omega | (simp only [L3] <;> omega)) only [Sall,evalOp,init,binA_s,binE,binI,unE,convE,okNil,builtE,gv,TD.isAgg,resV,↓reduceIte,Nat.reduceEqDiff,reduceCtorEq,Nat.reduceAdd,Nat.reduceMul,Nat.reduceLeDiff,quietOp,blindOp,Int.reduceEq,Int.reduceLT,Int.reduceLE,Nat.reduceLT,tiA,tiXA, hone]
  refine (l08Draw_c cv nb H2 hnb hc.now).ex ?_
  rintro ⟨⟨q, g⟩, u⟩ H3 ⟨ll, hq, hg, hll, hr, o3⟩
  dsimp only at hq hg hr
  have hu := (hr H3 fun _ _ _ h => h).one
  have d1 := ((((Dq.start hs hsc).calls o3).push ⟨26, true, [.int .i64 0, .int .i64 0, .slice none 0 0]⟩).putRow 0 rfl (cs' := [.int .i64 q, .int .i64 g, u]))
  have b3 := o3.next
  have hr4 : ∀ Hx, (∀ i r, H2.next ≤ i → ((H3.push ⟨26, true, [.int .i64 0, .int .i64 0, .slice none 0 0]⟩).setCells H3.next [.int .i64 q, .int .i64 g, u]).row i = some r → Hx.row i = some r) → Rg Hx u ll := fun Hx hx => hr Hx fun i r hi hr => hx i r hi (by
    have := o3.sc _ _ hr
    rw [AH.setCells_row, if_neg (by omega), AH.push_row, if_neg (by omega)]; exact hr)
  obtain ⟨ri, eri⟩ : ∃ ri, ri = H3.next := ⟨_, rfl⟩
  refine Holds.mp ?_
  try simp (disch := first | omega | (simp only [L3] <;> omega)) only [Sall,evalOp,init,binA_s,binE,binI,unE,convE,okNil,builtE,gv,TD.isAgg,resV,↓reduceIte,Nat.reduceEqDiff,reduceCtorEq,Nat.reduceAdd,Nat.reduceMul,Nat.reduceLeDiff,quietOp,blindOp,Int.reduceEq,Int.reduceLT,Int.reduceLE,Nat.reduceLT,tiA,tiXA, hu]
  have d1 : Dq cv nb H1.next H2 ((H3.push ⟨26, true, [.int .i64 0, .int .i64 0, .slice none 0 0]⟩).setCells H3.next [.int .i64 q, .int .i64 g, u]) [.row H3.next ⟨26, true, [.int .i64 q, .int .i64 g, u]⟩] := d1
  rw [← eri] at d1 hr4 ⊢
  generalize (H3.push ⟨26, true, [.int .i64 0, .int .i64 0, .slice none 0 0]⟩).setCells ri [.int .i64 q, .int .i64 g, u] = H4 at d1 hr4 ⊢
  have g1 := d1.rowAt 0 rfl
  have nri : ¬ ri = H1.next := by have := b3; omega
  have nh : ¬ H.next = H1.next := by omega
  refine draw_inS (fun j => j ≠ H1.next) [0, 1, 2, 3, 4, 5, 6, 7, 8, 9] (by kernel_rfl) (by kernel_rfl) (by kernel_rfl) ?_
  have lu := (hr4 H4 fun _ _ _ h => h).len
  have l65 := hll.1
  try simp (disch := first | omega | (simp only [L3] <;> omega)) only [Sall,evalOp,init,binA_s,binE,binI,unE,convE,okNil,builtE,gv,TD.isAgg,resV,↓reduceIte,Nat.reduceEqDiff,reduceCtorEq,Nat.reduceAdd,Nat.reduceMul,Nat.reduceLeDiff,quietOp,blindOp,Int.reduceEq,Int.reduceLT,Int.reduceLE,Nat.reduceLT,tiA,tiXA, awpIS_nil, awpIS_cons, stepIS_op, loadOk, g1, hu, nri, builtE, lu, w64]
  refine ⟨.inr (.inr (LE.les (LE.refl _))), ?_⟩
  try simp (disch := first | omega | (simp only [L3] <;> omega)) only [Sall,evalOp,init,binA_s,binE,binI,unE,convE,okNil,builtE,gv,TD.isAgg,resV,↓reduceIte,Nat.reduceEqDiff,reduceCtorEq,Nat.reduceAdd,Nat.reduceMul,Nat.reduceLeDiff,quietOp,blindOp,Int.reduceEq,Int.reduceLT,Int.reduceLE,Nat.reduceLT,tiA,tiXA, awpIS_nil, awpIS_cons, stepIS_op, loadOk, g1, hu, nri, builtE, lu, w64]
  refine (l01Near_c cv nb H1.next _ H4 (by split <;> omega) hnb (d1.src hsi) (d1.code hc hsc) d1.sc).ex ?_
  rintro a H5 ⟨a1, a2, B5, b5, o5⟩
  have d2 := d1.call hsi b5 o5
  have g0 : H5.row H.next = some ⟨26, true, [.int .i64 0, .int .i64 0, .slice none 0 0]⟩ := by
    rw [d2.lowEq (by omega) (by omega), up2.row _ (by omega)]; exact b0.1
  refine ⟨.inr (.inr (les_of b5 o5 d1.sc)), ?_⟩
  try simp (disch := first | omega | (simp only [L3] <;> omega)) only [Sall,evalOp,init,binA_s,binE,binI,unE,convE,okNil,builtE,gv,TD.isAgg,resV,↓reduceIte,Nat.reduceEqDiff,reduceCtorEq,Nat.reduceAdd,Nat.reduceMul,Nat.reduceLeDiff,quietOp,blindOp,Int.reduceEq,Int.reduceLT,Int.reduceLE,Nat.reduceLT,tiA,tiXA, awpIS_nil, awpIS_cons, stepIS_op, loadOk, hu, g0, nh]
  have hle := d2.le
  have k5 : ∀ i r, i ≠ H1.next → H4.row i = some r → H5.row i = some r := fun i r hi hr => by
    rw [o5.low i (by have := d1.sc _ _ hr; have := b5.next; omega), b5.row i hi]; exact hr
  refine ⟨.inr (.inl (by kernel_rfl)), (a, ((q, g), u)), rfl, ⟨a1, a2⟩, ll, hq, hg, hll, fun Hx hx => hr4 Hx fun i r hi hr => hx i r (by omega) ?_, Ow.of_up ⟨by show H.next ≤ H5.next; omega, fun i hi => ?_⟩ (d2.sc.set _ _)⟩
  · rw [AH.setCells_row, if_neg (by omega)]; exact k5 i r (by omega) hr
  · rw [AH.setCells_row, if_neg (by omega), d2.lowEq (by omega) (by omega), up2.row _ (by omega), o1.low _ hi]
theorem drawGroupOf_c (cv : Value) (nb : Nat) (H : AH) (hnb : nb ≤ 4611686018427387904) (hc0 : CodeOk H cv nb) :
    ACalls Try.prog 5 [cv] H (fun r H' => ∃ p : (Int × Int) × ((Int × Int) × Value), r = .tuple #[.agg #[.int .i64 p.2.1.1, .int .i64 p.2.1.2, p.2.2], .int .i64 p.1.1, .int .i64 p.1.2] ∧ ((-4611686018427387904 ≤ p.1.1 ∧ p.1.1 ≤ 1099511627776) ∧ (-4611686018427387904 ≤ p.1.2 ∧ p.1.2 ≤ 1099511627776)) ∧ WithG H p.2 H') := by
  refine ACalls.wf (by kernel_rfl) fun hsc0 => acalls_of_awp [.cell 2 26, .tmp 3, .tmp 4] Try.func5 (by kernel_rfl) rfl rfl (Nat.le_of_ble_eq_true rfl) (by kernel_rfl) ?_
  have o1 := (Ow.refl hsc0).push ⟨26, true, [.int .i64 0, .int .i64 0, .slice none 0 0]⟩
  have hone := hc0.one
  have b0 := (o1.rowAt 0 rfl)
  try simp (disch := first | omega | (simp only [L3] <;> omega)) only [Sall,evalOp,init,binA_s,binE,binI,unE,convE,okNil,builtE,gv,TD.isAgg,resV,↓reduceIte,Nat.reduceEqDiff,reduceCtorEq,Nat.reduceAdd,Nat.reduceMul,Nat.reduceLeDiff,quietOp,blindOp,Int.reduceEq,Int.reduceLT,Int.reduceLE,Nat.reduceLT,tiA,tiXA, hone]
  generalize H.push ⟨26, true, [.int .i64 0, .int .i64 0, .slice none 0 0]⟩ = H1 at o1 b0 ⊢
  have hc1 : CodeOk H1 cv nb := codeUp hc0 (o1.old hsc0)
  refine (l01From_c cv nb H1 hnb hc1).fin ?_
  rintro H2 ⟨up2, hsc, hsi, hs⟩
  have hc := CodeX.of hc1 o1.sc up2
  refine Holds.mp ?_
  try simp (disch := first | omega | (simp only [L3] <;> omega)) only [Sall,evalOp,init,binA_s,binE,binI,unE,convE,okNil,builtE,gv,TD.isAgg,resV,↓reduceIte,Nat.reduceEqDiff,reduceCtorEq,Nat.reduceAdd,Nat.reduceMul,Nat.reduceLeDiff,quietOp,blindOp,Int.reduceEq,Int.reduceLT,Int.reduceLE,Nat.reduceLT,tiA,tiXA, hone]
  refine (drawTidyRound_c cv nb H2 hnb hc.now).ex ?_
  rintro ⟨i0, ⟨q, g⟩, u⟩ H3 ⟨hi0, ll, hq, hg, hll, hr, o3⟩
  dsimp only at hi0 hq hg hr
  have hu := (hr H3 fun _ _ _ h => h).one
  have d1 := ((((Dq.start hs hsc).calls o3).push ⟨26, true, [.int .i64 0, .int .i64 0, .slice none 0 0]⟩).putRow 0 rfl (cs' := [.int .i64 q, .int .i64 g, u]))
  have b3 := o3.next
  have hr4 : ∀ Hx, (∀ i r, H2.next ≤ i → ((H3.push ⟨26, true, [.int .i64 0, .int .i64 0, .slice none 0 0]⟩).setCells H3.next [.int .i64 q, .int .i64 g, u]).row i = some r → Hx.row i = some r) → Rg Hx u ll := fun Hx hx => hr Hx fun i r hi hr => hx i r hi (by
    have := o3.sc _ _ hr
    rw [AH.setCells_row, if_neg (by omega), AH.push_row, if_neg (by omega)]; exact hr)
  obtain ⟨ri, eri⟩ : ∃ ri, ri = H3.next := ⟨_, rfl⟩
  refine Holds.mp ?_
  try simp (disch := first | omega | (simp only [L3] <;> omega)) only [Sall,evalOp,init,binA_s,binE,binI,unE,convE,okNil,builtE,gv,TD.isAgg,resV,↓reduceIte,Nat.reduceEqDiff,reduceCtorEq,Nat.reduceAdd,Nat.reduceMul,Nat.reduceLeDiff,quietOp,blindOp,Int.reduceEq,Int.reduceLT,Int.reduceLE,Nat.reduceLT,tiA,tiXA, hu]
  have d1 : Dq cv nb H1.next H2 ((H3.push ⟨26, true, [.int .i64 0, .int .i64 0, .slice none 0 0]⟩).setCells H3.next [.int .i64 q, .int .i64 g, u]) [.row H3.next ⟨26, true, [.int .i64 q, .int .i64 g, u]⟩] := d1
  rw [← eri] at d1 hr4 ⊢
  generalize (H3.push ⟨26, true, [.int .i64 0, .int .i64 0, .slice none 0 0]⟩).setCells ri [.int .i64 q, .int .i64 g, u] = H4 at d1 hr4 ⊢
  have g1 := d1.rowAt 0 rfl
  have nri : ¬ ri = H1.next := by have := b3; omega
  have nh : ¬ H.next = H1.next := by omega
  refine draw_inS (fun j => j ≠ H1.next) [0, 1, 2, 3, 4, 5, 6, 7, 8, 9, 10, 11] (by kernel_rfl) (by kernel_rfl) (by kernel_rfl) ?_
  try simp (disch := first | omega | (simp only [L3] <;> omega)) only [Sall,evalOp,init,binA_s,binE,binI,unE,convE,okNil,builtE,gv,TD.isAgg,resV,↓reduceIte,Nat.reduceEqDiff,reduceCtorEq,Nat.reduceAdd,Nat.reduceMul,Nat.reduceLeDiff,quietOp,blindOp,Int.reduceEq,Int.reduceLT,Int.reduceLE,Nat.reduceLT,tiA,tiXA, awpIS_nil, awpIS_cons, stepIS_op, loadOk, g1, hu, nri, builtE, w64]
  refine ⟨.inr (.inr (LE.les (LE.refl _))), ?_⟩
  try simp (disch := first | omega | (simp only [L3] <;> omega)) only [Sall,evalOp,init,binA_s,binE,binI,unE,convE,okNil,builtE,gv,TD.isAgg,resV,↓reduceIte,Nat.reduceEqDiff,reduceCtorEq,Nat.reduceAdd,Nat.reduceMul,Nat.reduceLeDiff,quietOp,blindOp,Int.reduceEq,Int.reduceLT,Int.reduceLE,Nat.reduceLT,tiA,tiXA, awpIS_nil, awpIS_cons, stepIS_op, loadOk, g1, hu, nri, builtE, w64]
  refine ⟨.inr (.inr (LE.les (LE.refl _))), ?_⟩
  try simp (disch := first | omega | (simp only [L3] <;> omega)) only [Sall,evalOp,init,binA_s,binE,binI,unE,convE,okNil,builtE,gv,TD.isAgg,resV,↓reduceIte,Nat.reduceEqDiff,reduceCtorEq,Nat.reduceAdd,Nat.reduceMul,Nat.reduceLeDiff,quietOp,blindOp,Int.reduceEq,Int.reduceLT,Int.reduceLE,Nat.reduceLT,tiA,tiXA, awpIS_nil, awpIS_cons, stepIS_op, loadOk, g1, hu, nri, builtE, w64]
  refine (l01Near_c cv nb H1.next _ H4 (by (repeat' split) <;> omega) hnb (d1.src hsi) (d1.code hc hsc) d1.sc).ex ?_
  rintro a H5 ⟨a1, a2, B5, b5, o5⟩
  have d2 := d1.call hsi b5 o5
  have g0 : H5.row H.next = some ⟨26, true, [.int .i64 0, .int .i64 0, .slice none 0 0]⟩ := by
    rw [d2.lowEq (by omega) (by omega), up2.row _ (by omega)]; exact b0.1
  refine ⟨.inr (.inr (les_of b5 o5 d1.sc)), ?_⟩
  try simp (disch := first | omega | (simp only [L3] <;> omega)) only [Sall,evalOp,init,binA_s,binE,binI,unE,convE,okNil,builtE,gv,TD.isAgg,resV,↓reduceIte,Nat.reduceEqDiff,reduceCtorEq,Nat.reduceAdd,Nat.reduceMul,Nat.reduceLeDiff,quietOp,blindOp,Int.reduceEq,Int.reduceLT,Int.reduceLE,Nat.reduceLT,tiA,tiXA, awpIS_nil, awpIS_cons, stepIS_op, loadOk, hu, g0, nh]
  have hle := d2.le
  have k5 : ∀ i r, i ≠ H1.next → H4.row i = some r → H5.row i = some r := fun i r hi hr => by
    rw [o5.low i (by have := d1.sc _ _ hr; have := b5.next; omega), b5.row i hi]; exact hr
  refine ⟨.inr (.inl (by kernel_rfl)), ((i0, a), ((q, g), u)), rfl, ⟨hi0, a1, a2⟩, ll, hq, hg, hll, fun Hx hx => hr4 Hx fun i r hi hr => hx i r (by omega) ?_, Ow.of_up ⟨by show H.next ≤ H5.next; omega, fun i hi => ?_⟩ (d2.sc.set _ _)⟩
  · rw [AH.setCells_row, if_neg (by omega)]; exact k5 i r (by omega) hr
  · rw [AH.setCells_row, if_neg (by omega), d2.lowEq (by omega) (by omega), up2.row _ (by omega), o1.low _ hi]
end Go.Proofs.Ytpienljnoaendaa.A
end

section
set_option maxRecDepth 100000
set_option maxHeartbeats 2000000
namespace Go.Proofs.Ytpienljnoaendaa.A
open Go Go.Abs Go.RowKit
theorem take_sum (l : List Int) (j : Nat) (hj : j < l.length) : (l.take (j + 1)).sum = (l.take j).sum + l.getD j 0 := by
  have e : l.take (j + 1) = l.take j ++ [l[j]] := by rw [List.take_add_one, List.getElem?_eq_getElem hj]; rfl
  have e2 : l.getD j 0 = l[j] := by rw [List.getD_eq_getElem?_getD, List.getElem?_eq_getElem hj]; rfl
  rw [e, e2, List.sum_append, List.sum_cons, List.sum_nil, Int.add_zero]
theorem sum_bound {l : List Int} (hb : ∀ x, x ∈ l → 0 ≤ x ∧ x ≤ 1000000) : ∀ j, j ≤ l.length → 0 ≤ (l.take j).sum ∧ (l.take j).sum ≤ (j : Int) * 1000000
  | 0, _ => by simp
  | j + 1, h => by
    have ih := sum_bound hb j (by omega)
    rw [take_sum l j (by omega)]
    have h2 : l.getD j 0 ∈ l := by
      rw [List.getD_eq_getElem?_getD, List.getElem?_eq_getElem (by omega)]
      exact List.getElem_mem _
    have := hb _ h2
    omega
theorem sum_c (v : Value) (n : Nat) (l : List Int) (H : AH) (hn : n ≤ 1000) (hv : Rd 1 H v n l) (hb : ∀ x, x ∈ l → 0 ≤ x ∧ x ≤ 1000000) : ACalls Try.prog 18 [v] H (is (.int .i64 l.sum) H) := by
  refine acalls_of_awp [.tmp 2] Try.func18 (by kernel_rfl) rfl rfl (Nat.le_of_ble_eq_true rfl) (by kernel_rfl) ?_
  have hln := hv.len
  have hl := hv.lenK1
  try simp (disch := first | omega | (simp only [L3] <;> omega)) only [Sall,evalOp,init,binA_s,binE,binI,unE,convE,okNil,builtE,gv,TD.isAgg,resV,↓reduceIte,Nat.reduceEqDiff,reduceCtorEq,Nat.reduceAdd,Nat.reduceMul,Nat.reduceLeDiff,quietOp,blindOp,Int.reduceEq,Int.reduceLT,Int.reduceLE,Nat.reduceLT,tiA,tiXA, true_and]
  refine awp_loop (fun z t H' => H' = H ∧ ∃ j : Nat, z = n - j ∧ j ≤ n ∧ t 4 = .int .i64 j ∧ t 3 = .int .i64 (l.take j).sum ∧ t 0 = v) n ?_ ?_
  · refine ⟨rfl, 0, by omega, by omega, ?_⟩
    try simp (disch := first | omega | (simp only [L3] <;> omega)) only [Sall,evalOp,init,binA_s,binE,binI,unE,convE,okNil,builtE,gv,TD.isAgg,resV,↓reduceIte,Nat.reduceEqDiff,reduceCtorEq,Nat.reduceAdd,Nat.reduceMul,Nat.reduceLeDiff,quietOp,blindOp,Int.reduceEq,Int.reduceLT,Int.reduceLE,Nat.reduceLT,tiA,tiXA, Int.natCast_zero, List.take_zero, List.sum_nil]
  · rintro z t H' ⟨rfl, j, hz, hj, h4, h3, h0⟩
    try simp (disch := first | omega | (simp only [L3] <;> omega)) only [Sall,evalOp,init,binA_s,binE,binI,unE,convE,okNil,builtE,gv,TD.isAgg,resV,↓reduceIte,Nat.reduceEqDiff,reduceCtorEq,Nat.reduceAdd,Nat.reduceMul,Nat.reduceLeDiff,quietOp,blindOp,Int.reduceEq,Int.reduceLT,Int.reduceLE,Nat.reduceLT,tiA,tiXA, h4, h0, hln, builtE]
    refine condC_dec (fun hh => ?_) (fun hh => ?_)
    · obtain ⟨ai, ao, au, ac, ar, rfl, a1, a2, a3, a4⟩ := hv.get (by omega)
      have a5 := a3 j (by omega)
      have hs := sum_bound hb j (by omega)
      have hs1 := sum_bound hb (j + 1) (by omega)
      have hst := take_sum l j (by omega)
      have ew : IntKind.i64.wrap ((l.take j).sum + l.getD j 0) = (l.take (j + 1)).sum := by
        rw [← hst]; exact w64 (by omega)
      try simp (disch := first | omega | (simp only [L3] <;> omega)) only [Sall,evalOp,init,binA_s,binE,binI,unE,convE,okNil,builtE,gv,TD.isAgg,resV,↓reduceIte,Nat.reduceEqDiff,reduceCtorEq,Nat.reduceAdd,Nat.reduceMul,Nat.reduceLeDiff,quietOp,blindOp,Int.reduceEq,Int.reduceLT,Int.reduceLE,Nat.reduceLT,tiA,tiXA, h4, h3, h0, a1, a5, ew, w64]
      (repeat refine And.intro (by omega) ?_)
      try simp (disch := first | omega | (simp only [L3] <;> omega)) only [Sall,evalOp,init,binA_s,binE,binI,unE,convE,okNil,builtE,gv,TD.isAgg,resV,↓reduceIte,Nat.reduceEqDiff,reduceCtorEq,Nat.reduceAdd,Nat.reduceMul,Nat.reduceLeDiff,quietOp,blindOp,Int.reduceEq,Int.reduceLT,Int.reduceLE,Nat.reduceLT,tiA,tiXA, h4, h3, h0, a1, a5, ew, w64]
      exact ⟨n - (j + 1), by omega, j + 1, rfl, by omega, rfl, rfl⟩
    · have e : l.take j = l := List.take_of_length_le (by omega)
      rw [e] at h3
      try simp (disch := first | omega | (simp only [L3] <;> omega)) only [Sall,evalOp,init,binA_s,binE,binI,unE,convE,okNil,builtE,gv,TD.isAgg,resV,↓reduceIte,Nat.reduceEqDiff,reduceCtorEq,Nat.reduceAdd,Nat.reduceMul,Nat.reduceLeDiff,quietOp,blindOp,Int.reduceEq,Int.reduceLT,Int.reduceLE,Nat.reduceLT,tiA,tiXA, h3]
      exact ⟨rfl, rfl⟩
theorem hasInt_c (v : Value) (a : Int) (n : Nat) (l : List Int) (H : AH) (hn : n ≤ 4294967296) (hv : Rd 1 H v n l) : ACalls Try.prog 19 [v, .int .i64 a] H (is (.bool (decide (a ∈ l))) H) := by
  refine acalls_of_awp [.tmp 4] Try.func19 (by kernel_rfl) rfl rfl (Nat.le_of_ble_eq_true rfl) (by kernel_rfl) ?_
  have hln := hv.len
  have hl := hv.lenK1
  try simp (disch := first | omega | (simp only [L3] <;> omega)) only [Sall,evalOp,init,binA_s,binE,binI,unE,convE,okNil,builtE,gv,TD.isAgg,resV,↓reduceIte,Nat.reduceEqDiff,reduceCtorEq,Nat.reduceAdd,Nat.reduceMul,Nat.reduceLeDiff,quietOp,blindOp,Int.reduceEq,Int.reduceLT,Int.reduceLE,Nat.reduceLT,tiA,tiXA, true_and]
  refine awp_loop (fun z t H' => H' = H ∧ ∃ j : Nat, z = n - j ∧ j ≤ n ∧ t 5 = .int .i64 j ∧ t 1 = .int .i64 a ∧ t 0 = v ∧ ∀ i, i < j → l.getD i 0 ≠ a) n ?_ ?_
  · refine ⟨rfl, 0, by omega, by omega, ?_⟩
    try simp (disch := first | omega | (simp only [L3] <;> omega)) only [Sall,evalOp,init,binA_s,binE,binI,unE,convE,okNil,builtE,gv,TD.isAgg,resV,↓reduceIte,Nat.reduceEqDiff,reduceCtorEq,Nat.reduceAdd,Nat.reduceMul,Nat.reduceLeDiff,quietOp,blindOp,Int.reduceEq,Int.reduceLT,Int.reduceLE,Nat.reduceLT,tiA,tiXA, Int.natCast_zero]
    try exact fun i hi => by omega
  · rintro z t H' ⟨rfl, j, hz, hj, h5, h1, h0, hno⟩
    try simp (disch := first | omega | (simp only [L3] <;> omega)) only [Sall,evalOp,init,binA_s,binE,binI,unE,convE,okNil,builtE,gv,TD.isAgg,resV,↓reduceIte,Nat.reduceEqDiff,reduceCtorEq,Nat.reduceAdd,Nat.reduceMul,Nat.reduceLeDiff,quietOp,blindOp,Int.reduceEq,Int.reduceLT,Int.reduceLE,Nat.reduceLT,tiA,tiXA, h5, h0, hln, builtE]
    refine condC_dec (fun hh => ?_) (fun hh => ?_)
    · obtain ⟨ai, ao, au, ac, ar, rfl, a1, a2, a3, a4⟩ := hv.get (by omega)
      have a5 := a3 j (by omega)
      by_cases c : l.getD j 0 = a
      · have e : (l.getD j 0 == a) = true := beq_iff_eq.2 c
        have hm : decide (a ∈ l) = true := decide_eq_true (by
          rw [← c, List.getD_eq_getElem?_getD, List.getElem?_eq_getElem (by omega)]
          exact List.getElem_mem _)
        try simp (disch := first | omega | (simp only [L3] <;> omega)) only [Sall,evalOp,init,binA_s,binE,binI,unE,convE,okNil,builtE,gv,TD.isAgg,resV,↓reduceIte,Nat.reduceEqDiff,reduceCtorEq,Nat.reduceAdd,Nat.reduceMul,Nat.reduceLeDiff,quietOp,blindOp,Int.reduceEq,Int.reduceLT,Int.reduceLE,Nat.reduceLT,tiA,tiXA, h5, h1, h0, a1, a5, e, w64]
        (repeat refine And.intro (by omega) ?_)
        first | exact ⟨by rw [hm], rfl⟩ | exact ⟨by omega, by rw [hm], rfl⟩
      · have e : (l.getD j 0 == a) = false := beq_eq_false_iff_ne.2 c
        try simp (disch := first | omega | (simp only [L3] <;> omega)) only [Sall,evalOp,init,binA_s,binE,binI,unE,convE,okNil,builtE,gv,TD.isAgg,resV,↓reduceIte,Nat.reduceEqDiff,reduceCtorEq,Nat.reduceAdd,Nat.reduceMul,Nat.reduceLeDiff,quietOp,blindOp,Int.reduceEq,Int.reduceLT,Int.reduceLE,Nat.reduceLT,tiA,tiXA, h5, h1, h0, a1, a5, e, w64]
        (repeat refine And.intro (by omega) ?_)
        try simp (disch := first | omega | (simp only [L3] <;> omega)) only [Sall,evalOp,init,binA_s,binE,binI,unE,convE,okNil,builtE,gv,TD.isAgg,resV,↓reduceIte,Nat.reduceEqDiff,reduceCtorEq,Nat.reduceAdd,Nat.reduceMul,Nat.reduceLeDiff,quietOp,blindOp,Int.reduceEq,Int.reduceLT,Int.reduceLE,Nat.reduceLT,tiA,tiXA, h5, h1, h0, a1, a5, e, w64]
        exact ⟨n - (j + 1), by omega, j + 1, rfl, by omega, rfl, fun i hi => by
          by_cases h : i = j
          · rw [h]; exact c
          · exact hno i (by omega)⟩
    · have hm : decide (a ∈ l) = false := decide_eq_false (fun hm => by
        obtain ⟨i, hi, e⟩ := List.getElem_of_mem hm
        refine hno i (by omega) ?_
        rw [List.getD_eq_getElem?_getD, List.getElem?_eq_getElem hi]; exact e)
      try simp (disch := first | omega | (simp only [L3] <;> omega)) only [Sall,evalOp,init,binA_s,binE,binI,unE,convE,okNil,builtE,gv,TD.isAgg,resV,↓reduceIte,Nat.reduceEqDiff,reduceCtorEq,Nat.reduceAdd,Nat.reduceMul,Nat.reduceLeDiff,quietOp,blindOp,Int.reduceEq,Int.reduceLT,Int.reduceLE,Nat.reduceLT,tiA,tiXA, true_and]
      exact ⟨by rw [hm], rfl⟩
end Go.Proofs.Ytpienljnoaendaa.A
end

section
set_option maxRecDepth 100000
set_option maxHeartbeats 2000000
namespace Go.Proofs.Ytpienljnoaendaa.A
open Go Go.Abs Go.RowKit
theorem gMeetings_c (n g c : Nat) (hg : 2 ≤ g) (hn : n = g * c) (hn25 : n ≤ 25) (hgn : g ≤ n) (v : Value) (R : List (List Int)) (H : AH) (hv : Rg H v R) (hl : R.length ≤ 12) (hR : ∀ i, i < R.length → ordB n (R.getD i []) = true) :
    ACalls Try.prog 31 [.agg #[.int .i64 n, .int .i64 g, v]] H (fun w H' => Ow H H' [.sl2 (Value.int .i64) 29 2 w (gmM n g R)]) := by
  refine ACalls.wf (by kernel_rfl) fun hs => acalls_of_awp [.tmp 2] Try.func31 (by kernel_rfl) rfl rfl (Nat.le_of_ble_eq_true rfl) (by kernel_rfl) ?_
  have hone := hv.one
  have o1 := golf_push hs n g v
  try simp (disch := first | omega | (simp only [L3] <;> omega)) only [Sall,evalOp,init,binA_s,binE,binI,unE,convE,okNil,builtE,gv,TD.isAgg,resV,↓reduceIte,Nat.reduceEqDiff,reduceCtorEq,Nat.reduceAdd,Nat.reduceMul,Nat.reduceLeDiff,quietOp,blindOp,Int.reduceEq,Int.reduceLT,Int.reduceLE,Nat.reduceLT,tiA,tiXA, hone]
  obtain ⟨pi, epi⟩ : ∃ pi, pi = H.next := ⟨_, rfl⟩
  rw [← epi] at o1 ⊢
  generalize H.push ⟨26, true, [.int .i64 n, .int .i64 g, v]⟩ = H1 at o1 ⊢
  have e1 := (o1.rowAt 0 rfl).1
  try simp (disch := first | omega | (simp only [L3] <;> omega)) only [Sall,evalOp,init,binA_s,binE,binI,unE,convE,okNil,builtE,gv,TD.isAgg,resV,↓reduceIte,Nat.reduceEqDiff,reduceCtorEq,Nat.reduceAdd,Nat.reduceMul,Nat.reduceLeDiff,quietOp,blindOp,Int.reduceEq,Int.reduceLT,Int.reduceLE,Nat.reduceLT,tiA,tiXA, e1]
  refine ACalls.mono (square_c n (by omega) H1).sc ?_
  rintro w H2 ⟨⟨up2, f2⟩, sc2⟩
  have o2 := o1.call (Ow.of_fr2 up2 sc2 f2)
  rw [← cntMx_nil] at o2
  have hw := (o2.rd2 1 rfl).one
  have e2 := (o2.rowAt 0 rfl).1
  have hvl := hv.len
  rw [← gmM_I (by omega) hn R]
  refine Holds.mp ?_
  try simp (disch := first | omega | (simp only [L3] <;> omega)) only [Sall,evalOp,init,binA_s,binE,binI,unE,convE,okNil,builtE,gv,TD.isAgg,resV,↓reduceIte,Nat.reduceEqDiff,reduceCtorEq,Nat.reduceAdd,Nat.reduceMul,Nat.reduceLeDiff,quietOp,blindOp,Int.reduceEq,Int.reduceLT,Int.reduceLE,Nat.reduceLT,tiA,tiXA, hw, e2, builtE, hvl]
  refine awp_loop (fun m t H' => ∃ r : Nat, m = R.length - r ∧ r ≤ R.length ∧ t 16 = .int .i64 r ∧ t 15 = .int .i64 R.length ∧ t 14 = v ∧ t 3 = w ∧ t 1 = .pointer (some ⟨pi, 0, none⟩) ∧ Ow H H' [.row pi ⟨26, true, [.int .i64 n, .int .i64 g, v]⟩, .sl2 (Value.int .i64) 29 2 w (cntMx n (gxI n g R r))]) R.length ?_ ?_
  · refine ⟨0, by omega, by omega, ?_⟩
    try simp (disch := first | omega | (simp only [L3] <;> omega)) only [Sall,evalOp,init,binA_s,binE,binI,unE,convE,okNil,builtE,gv,TD.isAgg,resV,↓reduceIte,Nat.reduceEqDiff,reduceCtorEq,Nat.reduceAdd,Nat.reduceMul,Nat.reduceLeDiff,quietOp,blindOp,Int.reduceEq,Int.reduceLT,Int.reduceLE,Nat.reduceLT,tiA,tiXA, Int.natCast_zero]
    exact o2
  · rintro m t H3 ⟨r, hm, hr, h16, h15, h14, h3, h1, o3⟩
    try simp (disch := first | omega | (simp only [L3] <;> omega)) only [Sall,evalOp,init,binA_s,binE,binI,unE,convE,okNil,builtE,gv,TD.isAgg,resV,↓reduceIte,Nat.reduceEqDiff,reduceCtorEq,Nat.reduceAdd,Nat.reduceMul,Nat.reduceLeDiff,quietOp,blindOp,Int.reduceEq,Int.reduceLT,Int.reduceLE,Nat.reduceLT,tiA,tiXA, h16, h15]
    refine condC_dec (fun hh => ?_) (fun hh => ?_)
    · obtain ⟨vi, vo, vu, vc, vr, y, ev, v1, v2, v3, v4⟩ := (hv.same (o3.old hs)).get (j := r) (by omega)
      have hy := v3.rd.one
      obtain ⟨y1, y2, y3⟩ := (ordB_iff n _).1 (hR r (by omega))
      have hyl := v3.rd.len
      rw [y1] at v3 hyl
      have hy0 : Rs 1 H y n (R.getD r []) := by
        obtain ⟨vi', vo', vu', vc', vr', y', ev', v1', v2', v3', v4'⟩ := hv.get (j := r) (by omega)
        have q := (o3.old hs) _ _ v1'
        rw [ev] at ev'
        cases ev'
        rw [v1] at q
        cases q
        rw [v2] at v2'
        cases v2'
        rw [y1] at v3'
        exact v3'
      have hgl : (gxI n g R r).length ≤ 12 * (25 * 50) := by
        refine Nat.le_trans (gxI_length R r) ?_
        exact Nat.mul_le_mul (by omega) (Nat.mul_le_mul hn25 (by omega))
      have hgs := gxI_succ n g R r
      generalize R.getD r [] = l at *
      obtain ⟨E, eE⟩ : ∃ E, E = gxI n g R r := ⟨_, rfl⟩
      rw [← eE] at o3 hgl hgs
      try simp (disch := first | omega | (simp only [L3] <;> omega)) only [Sall,evalOp,init,binA_s,binE,binI,unE,convE,okNil,builtE,gv,TD.isAgg,resV,↓reduceIte,Nat.reduceEqDiff,reduceCtorEq,Nat.reduceAdd,Nat.reduceMul,Nat.reduceLeDiff,quietOp,blindOp,Int.reduceEq,Int.reduceLT,Int.reduceLE,Nat.reduceLT,tiA,tiXA, h16, h15, h14, ev, v1, v2, v4, hy]
      (repeat refine And.intro (by omega) ?_)
      try simp (disch := first | omega | (simp only [L3] <;> omega)) only [Sall,evalOp,init,binA_s,binE,binI,unE,convE,okNil,builtE,gv,TD.isAgg,resV,↓reduceIte,Nat.reduceEqDiff,reduceCtorEq,Nat.reduceAdd,Nat.reduceMul,Nat.reduceLeDiff,quietOp,blindOp,Int.reduceEq,Int.reduceLT,Int.reduceLE,Nat.reduceLT,tiA,tiXA, h16, h15, h14, h3, h1, hy, builtE, hyl]
      refine awp_loop (fun m' t H' => ∃ i : Nat, m' = n - i ∧ i ≤ n ∧ t 22 = .int .i64 i ∧ t 21 = .int .i64 n ∧ t 20 = y ∧ t 5 = y ∧ t 16 = .int .i64 r ∧ t 15 = .int .i64 R.length ∧ t 14 = v ∧ t 3 = w ∧ t 1 = .pointer (some ⟨pi, 0, none⟩) ∧ Ow H H' [.row pi ⟨26, true, [.int .i64 n, .int .i64 g, v]⟩, .sl2 (Value.int .i64) 29 2 w (cntMx n (E ++ gxL n l (pgI g i)))]) n ?_ ?_
      · refine ⟨0, by omega, by omega, ?_⟩
        try simp (disch := first | omega | (simp only [L3] <;> omega)) only [Sall,evalOp,init,binA_s,binE,binI,unE,convE,okNil,builtE,gv,TD.isAgg,resV,↓reduceIte,Nat.reduceEqDiff,reduceCtorEq,Nat.reduceAdd,Nat.reduceMul,Nat.reduceLeDiff,quietOp,blindOp,Int.reduceEq,Int.reduceLT,Int.reduceLE,Nat.reduceLT,tiA,tiXA, Int.natCast_zero, h16, h15, h14, h3, h1]
        rw [show gxL n l (pgI g 0) = [] from rfl, List.append_nil]
        exact o3
      · rintro m' t H4 ⟨i, hm', hi, h22, h21, h20, h5, h16, h15, h14, h3, h1, o4⟩
        try simp (disch := first | omega | (simp only [L3] <;> omega)) only [Sall,evalOp,init,binA_s,binE,binI,unE,convE,okNil,builtE,gv,TD.isAgg,resV,↓reduceIte,Nat.reduceEqDiff,reduceCtorEq,Nat.reduceAdd,Nat.reduceMul,Nat.reduceLeDiff,quietOp,blindOp,Int.reduceEq,Int.reduceLT,Int.reduceLE,Nat.reduceLT,tiA,tiXA, h22, h21]
        refine condC_dec (fun hh2 => ?_) (fun hh2 => ?_)
        · have hy4 := hy0.same (o4.old hs)
          obtain ⟨ys, hcut, rys⟩ := hy0.cut (lo := none) (hi := some (i : Int)) (a := 0) (b := i) rfl rfl (by omega) hi
          rw [Nat.zero_mul, Nat.mul_one, Nat.sub_zero, List.drop_zero] at rys
          have hysl := rys.rd.len
          have hyso := rys.rd.one
          obtain ⟨yi, yo, yu, yc, yr, ey, w1, w2, w3, _⟩ := hy4.rd.get (by omega)
          have w4 := w3 i (by omega)
          have hin : ∀ j, j < n → ∃ p : Nat, l.getD j 0 = p ∧ p < n := fun j hj => ⟨(l.getD j 0).toNat, by have := y2 _ (getD_memI (l := l) (i := j) (by omega)); omega, by have := y2 _ (getD_memI (l := l) (i := j) (by omega)); omega⟩
          obtain ⟨p, hp, hpn⟩ := hin i (by omega)
          rw [hp] at w4
          try simp (disch := first | omega | (simp only [L3] <;> omega)) only [Sall,evalOp,init,binA_s,binE,binI,unE,convE,okNil,builtE,gv,TD.isAgg,resV,↓reduceIte,Nat.reduceEqDiff,reduceCtorEq,Nat.reduceAdd,Nat.reduceMul,Nat.reduceLeDiff,quietOp,blindOp,Int.reduceEq,Int.reduceLT,Int.reduceLE,Nat.reduceLT,tiA,tiXA, h22, h20, ey, w1, w4]
          (repeat refine And.intro (by omega) ?_)
          try simp (disch := first | omega | (simp only [L3] <;> omega)) only [Sall,evalOp,init,binA_s,binE,binI,unE,convE,okNil,builtE,gv,TD.isAgg,resV,↓reduceIte,Nat.reduceEqDiff,reduceCtorEq,Nat.reduceAdd,Nat.reduceMul,Nat.reduceLeDiff,quietOp,blindOp,Int.reduceEq,Int.reduceLT,Int.reduceLE,Nat.reduceLT,tiA,tiXA, h5]
          refine hcut _ _ _ _ rfl ?_
          try simp (disch := first | omega | (simp only [L3] <;> omega)) only [Sall,evalOp,init,binA_s,binE,binI,unE,convE,okNil,builtE,gv,TD.isAgg,resV,↓reduceIte,Nat.reduceEqDiff,reduceCtorEq,Nat.reduceAdd,Nat.reduceMul,Nat.reduceLeDiff,quietOp,blindOp,Int.reduceEq,Int.reduceLT,Int.reduceLE,Nat.reduceLT,tiA,tiXA, builtE, hysl, hyso]
          refine awp_loop (fun m2 t H' => ∃ k : Nat, m2 = i - k ∧ k ≤ i ∧ t 31 = .int .i64 k ∧ t 30 = .int .i64 i ∧ t 29 = ys ∧ t 6 = .int .i64 i ∧ t 7 = .int .i64 p ∧ t 22 = .int .i64 i ∧ t 21 = .int .i64 n ∧ t 20 = y ∧ t 5 = y ∧ t 16 = .int .i64 r ∧ t 15 = .int .i64 R.length ∧ t 14 = v ∧ t 3 = w ∧ t 1 = .pointer (some ⟨pi, 0, none⟩) ∧ Ow H H' [.row pi ⟨26, true, [.int .i64 n, .int .i64 g, v]⟩, .sl2 (Value.int .i64) 29 2 w (cntMx n (E ++ gxL n l (pgI g i ++ pgQ g i k)))]) i ?_ ?_
          · refine ⟨0, by omega, by omega, ?_⟩
            try simp (disch := first | omega | (simp only [L3] <;> omega)) only [Sall,evalOp,init,binA_s,binE,binI,unE,convE,okNil,builtE,gv,TD.isAgg,resV,↓reduceIte,Nat.reduceEqDiff,reduceCtorEq,Nat.reduceAdd,Nat.reduceMul,Nat.reduceLeDiff,quietOp,blindOp,Int.reduceEq,Int.reduceLT,Int.reduceLE,Nat.reduceLT,tiA,tiXA, Int.natCast_zero, h22, h21, h20, h5, h16, h15, h14, h3, h1]
            rw [show pgQ g i 0 = [] from rfl, List.append_nil]
            exact o4
          · rintro m2 t H5 ⟨k, hm2, hk, h31, h30, h29, h6, h7, h22, h21, h20, h5, h16, h15, h14, h3, h1, o5⟩
            try simp (disch := first | omega | (simp only [L3] <;> omega)) only [Sall,evalOp,init,binA_s,binE,binI,unE,convE,okNil,builtE,gv,TD.isAgg,resV,↓reduceIte,Nat.reduceEqDiff,reduceCtorEq,Nat.reduceAdd,Nat.reduceMul,Nat.reduceLeDiff,quietOp,blindOp,Int.reduceEq,Int.reduceLT,Int.reduceLE,Nat.reduceLT,tiA,tiXA, h31, h30]
            refine condC_dec (fun hh3 => ?_) (fun hh3 => ?_)
            · have hk1 : k < i := by omega
              skip
              obtain ⟨zi, zo, zu, zc, zr, ez, z1, z2, z3, _⟩ := (rys.rd.same (o5.old hs)).get (by omega)
              have z4 := z3 k (by omega)
              obtain ⟨q, hq, hqn⟩ := hin k (by omega)
              have e5 : (l.take i).getD k 0 = q := by
                rw [List.getD_eq_getElem?_getD, List.getElem?_take_of_lt hk1, ← List.getD_eq_getElem?_getD]; exact hq
              rw [e5] at z4
              have e3 := (o5.rowAt 0 rfl).1
              have di : Int.tdiv (i : Int) (g : Int) = ((i / g : Nat) : Int) := rfl
              have dk : Int.tdiv (k : Int) (g : Int) = ((k / g : Nat) : Int) := rfl
              have hg0 : ¬ (g : Int) = 0 := by omega
              have li := Nat.div_le_self i g
              have lk := Nat.div_le_self k g
              try simp (disch := first | omega | (simp only [L3] <;> omega)) only [Sall,evalOp,init,binA_s,binE,binI,unE,convE,okNil,builtE,gv,TD.isAgg,resV,↓reduceIte,Nat.reduceEqDiff,reduceCtorEq,Nat.reduceAdd,Nat.reduceMul,Nat.reduceLeDiff,quietOp,blindOp,Int.reduceEq,Int.reduceLT,Int.reduceLE,Nat.reduceLT,tiA,tiXA, h31, h29, ez, z1, z4]
              (repeat refine And.intro (by omega) ?_)
              try simp (disch := first | omega | (simp only [L3] <;> omega)) only [Sall,evalOp,init,binA_s,binE,binI,unE,convE,okNil,builtE,gv,TD.isAgg,resV,↓reduceIte,Nat.reduceEqDiff,reduceCtorEq,Nat.reduceAdd,Nat.reduceMul,Nat.reduceLeDiff,quietOp,blindOp,Int.reduceEq,Int.reduceLT,Int.reduceLE,Nat.reduceLT,tiA,tiXA, h31, h29, ez, z1, z4]
              refine draw_id (by kernel_rfl) (by kernel_rfl) ?_
              try simp (disch := first | omega | (simp only [L3] <;> omega)) only [Sall,evalOp,init,binA_s,binE,binI,unE,convE,okNil,builtE,gv,TD.isAgg,resV,↓reduceIte,Nat.reduceEqDiff,reduceCtorEq,Nat.reduceAdd,Nat.reduceMul,Nat.reduceLeDiff,quietOp,blindOp,Int.reduceEq,Int.reduceLT,Int.reduceLE,Nat.reduceLT,tiA,tiXA, h6, h1, e3, di, dk, hg0, w64]
              (repeat refine And.intro (by omega) ?_)
              try simp (disch := first | omega | (simp only [L3] <;> omega)) only [Sall,evalOp,init,binA_s,binE,binI,unE,convE,okNil,builtE,gv,TD.isAgg,resV,↓reduceIte,Nat.reduceEqDiff,reduceCtorEq,Nat.reduceAdd,Nat.reduceMul,Nat.reduceLeDiff,quietOp,blindOp,Int.reduceEq,Int.reduceLT,Int.reduceLE,Nat.reduceLT,tiA,tiXA, h6, h1, e3, di, dk, hg0, w64]
              have wd : ∀ A : Nat, A ≤ 25 → IntKind.i64.wrap (A : Int) = A := fun A hA => w64 ⟨by omega, by omega⟩
              rw [wd _ (by omega), wd _ (by omega)]
              have hEl : (E ++ gxL n l (pgI g i ++ pgQ g i k)).length ≤ 100000 := by
                rw [List.length_append, gxL_length, List.length_append]
                have := pgQ_length g i k
                have h2 := pgI_length g 25 i (by omega)
                have h3 : i * (2 * 25) ≤ 25 * 50 := Nat.mul_le_mul (by omega) (by omega)
                omega
              by_cases e : i / g = k / g
              · have eb : (((i / g : Nat) : Int) == ((k / g : Nat) : Int)) = true := by rw [e]; exact beq_self_eq_true _
                rw [eb, condC_true, awp_seq]
                refine awp_cutQ (fun t H' => t 31 = .int .i64 k ∧ t 30 = .int .i64 i ∧ t 29 = ys ∧ t 6 = .int .i64 i ∧ t 7 = .int .i64 p ∧ t 9 = .int .i64 q ∧ t 22 = .int .i64 i ∧ t 21 = .int .i64 n ∧ t 20 = y ∧ t 5 = y ∧ t 16 = .int .i64 r ∧ t 15 = .int .i64 R.length ∧ t 14 = v ∧ t 3 = w ∧ t 1 = .pointer (some ⟨pi, 0, none⟩) ∧ Ow H H' [.row pi ⟨26, true, [.int .i64 n, .int .i64 g, v]⟩, .sl2 (Value.int .i64) 29 2 w (cntMx n (E ++ gxL n l (pgI g i ++ pgQ g i k) ++ [ixN n p q]))]) ?_ ?_
                · obtain ⟨ai, vs, aq, row, x, ew, a1, a2, a3, a4, a5, a6, a7, a8, o6⟩ := o5.inc 1 rfl hpn hqn (by omega)
                  have ix1 : 0 ≤ (p : Int) ∧ (p : Int) < n := by omega
                  have ix2 : 0 ≤ (q : Int) ∧ (q : Int) < n := by omega
                  try simp (disch := first | omega | (simp only [L3] <;> omega)) only [Sall,evalOp,init,binA_s,binE,binI,unE,convE,okNil,builtE,gv,TD.isAgg,resV,↓reduceIte,Nat.reduceEqDiff,reduceCtorEq,Nat.reduceAdd,Nat.reduceMul,Nat.reduceLeDiff,quietOp,blindOp,Int.reduceEq,Int.reduceLT,Int.reduceLE,Nat.reduceLT,tiA,tiXA, h31, h30, h29, h6, h7, h22, h21, h20, h5, h16, h15, h14, h3, h1, ew, a1, a2, a3, a4, a5, a6, ints_set, w64]
                  rw [ew] at o6
                  exact ⟨⟨by omega, by omega⟩, ⟨by omega, by omega⟩, ⟨by omega, by omega⟩, hqn, o6⟩
                · rintro t H6 ⟨h31, h30, h29, h6, h7, h9, h22, h21, h20, h5, h16, h15, h14, h3, h1, o6⟩
                  obtain ⟨ai, vs, aq, row, x, ew, a1, a2, a3, a4, a5, a6, a7, a8, o7⟩ := o6.inc 1 rfl hqn hpn (by rw [List.length_append, List.length_singleton]; omega)
                  try simp (disch := first | omega | (simp only [L3] <;> omega)) only [Sall,evalOp,init,binA_s,binE,binI,unE,convE,okNil,builtE,gv,TD.isAgg,resV,↓reduceIte,Nat.reduceEqDiff,reduceCtorEq,Nat.reduceAdd,Nat.reduceMul,Nat.reduceLeDiff,quietOp,blindOp,Int.reduceEq,Int.reduceLT,Int.reduceLE,Nat.reduceLT,tiA,tiXA, h31, h30, h29, h6, h7, h9, h22, h21, h20, h5, h16, h15, h14, h3, h1, ew, a1, a2, a3, a4, a5, a6, ints_set, w64]
                  rw [ew] at o7
                  refine ⟨⟨by omega, by omega⟩, ⟨by omega, by omega⟩, ⟨by omega, by omega⟩, hpn, i - (k + 1), by omega, k + 1, by omega, by omega, rfl, ?_⟩
                  have eg : E ++ gxL n l (pgI g i ++ pgQ g i (k + 1)) = E ++ gxL n l (pgI g i ++ pgQ g i k) ++ [ixN n p q] ++ [ixN n q p] := by
                    rw [pgQ_succ, if_pos e, ← List.append_assoc, gxL_app n l (pgI g i ++ pgQ g i k), ← List.append_assoc]
                    have e8 : gxL n l [(i, k), (k, i)] = [ixN n p q, ixN n q p] := by
                      unfold gxL
                      simp only [List.map_cons, List.map_nil, hp, hq, Int.toNat_natCast]
                    rw [e8]
                    simp
                  rw [eg]
                  exact o7
              · have eb : (((i / g : Nat) : Int) == ((k / g : Nat) : Int)) = false := beq_eq_false_iff_ne.2 (by omega)
                rw [eb]
                try simp (disch := first | omega | (simp only [L3] <;> omega)) only [Sall,evalOp,init,binA_s,binE,binI,unE,convE,okNil,builtE,gv,TD.isAgg,resV,↓reduceIte,Nat.reduceEqDiff,reduceCtorEq,Nat.reduceAdd,Nat.reduceMul,Nat.reduceLeDiff,quietOp,blindOp,Int.reduceEq,Int.reduceLT,Int.reduceLE,Nat.reduceLT,tiA,tiXA, h31, h30, h29, h6, h7, h22, h21, h20, h5, h16, h15, h14, h3, h1, w64]
                refine ⟨i - (k + 1), by omega, k + 1, by omega, by omega, rfl, ?_⟩
                rw [pgQ_succ, if_neg e, List.append_nil]
                exact o5
            · have hke : k = i := by omega
              subst hke
              try simp (disch := first | omega | (simp only [L3] <;> omega)) only [Sall,evalOp,init,binA_s,binE,binI,unE,convE,okNil,builtE,gv,TD.isAgg,resV,↓reduceIte,Nat.reduceEqDiff,reduceCtorEq,Nat.reduceAdd,Nat.reduceMul,Nat.reduceLeDiff,quietOp,blindOp,Int.reduceEq,Int.reduceLT,Int.reduceLE,Nat.reduceLT,tiA,tiXA, h22, h21, h20, h5, h16, h15, h14, h3, h1, w64]
              refine ⟨n - (k + 1), by omega, k + 1, by omega, by omega, ?_⟩
              rw [pgI_succ]
              exact ⟨rfl, o5⟩
        · have hie : i = n := by omega
          subst hie
          try simp (disch := first | omega | (simp only [L3] <;> omega)) only [Sall,evalOp,init,binA_s,binE,binI,unE,convE,okNil,builtE,gv,TD.isAgg,resV,↓reduceIte,Nat.reduceEqDiff,reduceCtorEq,Nat.reduceAdd,Nat.reduceMul,Nat.reduceLeDiff,quietOp,blindOp,Int.reduceEq,Int.reduceLT,Int.reduceLE,Nat.reduceLT,tiA,tiXA, h16, h15, h14, h3, h1, w64]
          refine ⟨R.length - (r + 1), by omega, r + 1, by omega, by omega, ?_⟩
          rw [hgs]
          exact ⟨rfl, o4⟩
    · have hre : r = R.length := by omega
      subst hre
      try simp (disch := first | omega | (simp only [L3] <;> omega)) only [Sall,evalOp,init,binA_s,binE,binI,unE,convE,okNil,builtE,gv,TD.isAgg,resV,↓reduceIte,Nat.reduceEqDiff,reduceCtorEq,Nat.reduceAdd,Nat.reduceMul,Nat.reduceLeDiff,quietOp,blindOp,Int.reduceEq,Int.reduceLT,Int.reduceLE,Nat.reduceLT,tiA,tiXA, h3]
      exact o3.only 1 rfl
theorem l08Meetings_c (n g c : Nat) (hg : 2 ≤ g) (hn : n = g * c) (hn25 : n ≤ 25) (hgn : g ≤ n) (v : Value) (R : List (List Int)) (H : AH) (hv : Rd2 1 H v R) (hl : R.length ≤ 12) (hR : ∀ i, i < R.length → ordB n (R.getD i []) = true) :
    ACalls Try.prog 33 [.agg #[.int .i64 n, .int .i64 g, v]] H (fun w H' => Ow H H' [.sl2 (Value.int .i64) 29 2 w (gmM n g R)]) := by
  refine ACalls.wf (by kernel_rfl) fun hs => acalls_of_awp [.tmp 2] Try.func33 (by kernel_rfl) rfl rfl (Nat.le_of_ble_eq_true rfl) (by kernel_rfl) ?_
  have hone := hv.one
  have o1 := (golf_push hs n g v).pushSl2 (Value.int .i64) 29 2
  try simp (disch := first | omega | (simp only [L3] <;> omega)) only [Sall,evalOp,init,binA_s,binE,binI,unE,convE,okNil,builtE,gv,TD.isAgg,resV,↓reduceIte,Nat.reduceEqDiff,reduceCtorEq,Nat.reduceAdd,Nat.reduceMul,Nat.reduceLeDiff,quietOp,blindOp,Int.reduceEq,Int.reduceLT,Int.reduceLE,Nat.reduceLT,tiA,tiXA, hone]
  (repeat refine And.intro (by omega) ?_)
  have hvl := hv.len
  refine awp_loop (fun m t H' => ∃ (a : Nat) (w : Value), m = n - a ∧ a ≤ n ∧ t 4 = .int .i64 a ∧ t 3 = w ∧ t 1 = .pointer (some ⟨H.next, 0, none⟩) ∧ Ow H H' [.row H.next ⟨26, true, [.int .i64 n, .int .i64 g, v]⟩, .sl2 (Value.int .i64) 29 2 w (List.replicate a (List.replicate n 0))]) n ?_ ?_
  · refine ⟨0, .slice (some ⟨H.next + 1, 0, some 1⟩) 0 0, by omega, by omega, ?_⟩
    try simp (disch := first | omega | (simp only [L3] <;> omega)) only [Sall,evalOp,init,binA_s,binE,binI,unE,convE,okNil,builtE,gv,TD.isAgg,resV,↓reduceIte,Nat.reduceEqDiff,reduceCtorEq,Nat.reduceAdd,Nat.reduceMul,Nat.reduceLeDiff,quietOp,blindOp,Int.reduceEq,Int.reduceLT,Int.reduceLE,Nat.reduceLT,tiA,tiXA, Int.natCast_zero]
    exact o1
  · rintro m t H1 ⟨a, w, hm, ha, h4, h3, h1, o2⟩
    have e1 := (o2.rowAt 0 rfl).1
    have hw := (o2.rd2 1 rfl).one
    try simp (disch := first | omega | (simp only [L3] <;> omega)) only [Sall,evalOp,init,binA_s,binE,binI,unE,convE,okNil,builtE,gv,TD.isAgg,resV,↓reduceIte,Nat.reduceEqDiff,reduceCtorEq,Nat.reduceAdd,Nat.reduceMul,Nat.reduceLeDiff,quietOp,blindOp,Int.reduceEq,Int.reduceLT,Int.reduceLE,Nat.reduceLT,tiA,tiXA, h4, h1, e1]
    refine condC_dec (fun hh => ?_) (fun hh => ?_)
    · have zz : zeros 1 [.slice none 0 0] = [.slice none 0 0] := rfl
      have zn : zeros n [.int .i64 0] = ints (List.replicate n 0) := by simp [zeros, ints]
      have ob := (o2.pushSl (k := 1) (n := n) (ty := 2) (vs := ints (List.replicate n 0)) (by simp [ints])).tmp ⟨29, true, [.slice (some ⟨H1.next, 0, some 1⟩) n n]⟩
      have np : ¬ H.next = H1.next := by have := (o2.rowAt 0 rfl).2.2; omega
      try simp (disch := first | omega | (simp only [L3] <;> omega)) only [Sall,evalOp,init,binA_s,binE,binI,unE,convE,okNil,builtE,gv,TD.isAgg,resV,↓reduceIte,Nat.reduceEqDiff,reduceCtorEq,Nat.reduceAdd,Nat.reduceMul,Nat.reduceLeDiff,quietOp,blindOp,Int.reduceEq,Int.reduceLT,Int.reduceLE,Nat.reduceLT,tiA,tiXA, h4, h3, h1, e1, hw, np, zn, zz, slCells, w64]
      (repeat refine And.intro (by omega) ?_)
      refine ob.app2 (l := List.replicate n 0) 1 2 rfl rfl (by omega) rfl (by decide) (by rw [List.length_replicate]; omega) ?_
      intro v' H2 n2 oc
      try simp (disch := first | omega | (simp only [L3] <;> omega)) only [Sall,evalOp,init,binA_s,binE,binI,unE,convE,okNil,builtE,gv,TD.isAgg,resV,↓reduceIte,Nat.reduceEqDiff,reduceCtorEq,Nat.reduceAdd,Nat.reduceMul,Nat.reduceLeDiff,quietOp,blindOp,Int.reduceEq,Int.reduceLT,Int.reduceLE,Nat.reduceLT,tiA,tiXA, h4, h1, w64]
      refine ⟨n - (a + 1), by omega, a + 1, v', rfl, by omega, by omega, rfl, ?_⟩
      have oc2 : Ow H H2 ([.row H.next ⟨26, true, [.int .i64 n, .int .i64 g, v]⟩, .sl2 (Value.int .i64) 29 2 v' (List.replicate a (List.replicate n 0) ++ [List.replicate n 0])] ++ [.no]) := oc
      rw [List.replicate_succ']
      exact oc2.left
    · have hae : a = n := by omega
      rw [hae] at o2
      have o2 : Ow H H1 [.row H.next ⟨26, true, [.int .i64 n, .int .i64 g, v]⟩, .sl2 (Value.int .i64) 29 2 w (zeroM n)] := o2
      rw [← cntMx_nil] at o2
      try simp (disch := first | omega | (simp only [L3] <;> omega)) only [Sall,evalOp,init,binA_s,binE,binI,unE,convE,okNil,builtE,gv,TD.isAgg,resV,↓reduceIte,Nat.reduceEqDiff,reduceCtorEq,Nat.reduceAdd,Nat.reduceMul,Nat.reduceLeDiff,quietOp,blindOp,Int.reduceEq,Int.reduceLT,Int.reduceLE,Nat.reduceLT,tiA,tiXA, h3, h1]
      refine awp_loop (fun m t H' => ∃ r : Nat, m = R.length - r ∧ r ≤ R.length ∧ t 5 = .int .i64 r ∧ t 3 = w ∧ t 1 = .pointer (some ⟨H.next, 0, none⟩) ∧ Ow H H' [.row H.next ⟨26, true, [.int .i64 n, .int .i64 g, v]⟩, .sl2 (Value.int .i64) 29 2 w (cntMx n (gxS n g R r))]) R.length ?_ ?_
      · refine ⟨0, by omega, by omega, ?_⟩
        try simp (disch := first | omega | (simp only [L3] <;> omega)) only [Sall,evalOp,init,binA_s,binE,binI,unE,convE,okNil,builtE,gv,TD.isAgg,resV,↓reduceIte,Nat.reduceEqDiff,reduceCtorEq,Nat.reduceAdd,Nat.reduceMul,Nat.reduceLeDiff,quietOp,blindOp,Int.reduceEq,Int.reduceLT,Int.reduceLE,Nat.reduceLT,tiA,tiXA, Int.natCast_zero, h3, h1]
        exact o2
      · rintro m t H3 ⟨r, hm, hr, h5, h3, h1, o3⟩
        have e1 := (o3.rowAt 0 rfl).1
        try simp (disch := first | omega | (simp only [L3] <;> omega)) only [Sall,evalOp,init,binA_s,binE,binI,unE,convE,okNil,builtE,gv,TD.isAgg,resV,↓reduceIte,Nat.reduceEqDiff,reduceCtorEq,Nat.reduceAdd,Nat.reduceMul,Nat.reduceLeDiff,quietOp,blindOp,Int.reduceEq,Int.reduceLT,Int.reduceLE,Nat.reduceLT,tiA,tiXA, h5, h1, e1, builtE, hvl]
        refine condC_dec (fun hh => ?_) (fun hh => ?_)
        · obtain ⟨vi, vo, vu, vc, vr, y, my, ev, v1, v2, v3, v4⟩ := hv.get (j := r) (by omega)
          have hmm := v3.lenK1
          subst hmm
          have hy := v3.one
          obtain ⟨y1, y2, y3⟩ := (ordB_iff n _).1 (hR r (by omega))
          rw [y1] at v3
          have hgl : (gxS n g R r).length ≤ 12 * (25 * 25) := by
            refine Nat.le_trans (gxS_length R r) ?_
            exact Nat.mul_le_mul (by omega) (Nat.mul_le_mul hn25 (by omega))
          have hgs := gxS_succ n g R r
          generalize R.getD r [] = l at *
          obtain ⟨E, eE⟩ : ∃ E, E = gxS n g R r := ⟨_, rfl⟩
          rw [← eE] at o3 hgl hgs
          have v1' := o3.old hs _ _ v1
          have hin : ∀ j, j < n → ∃ p : Nat, l.getD j 0 = p ∧ p < n := fun j hj => ⟨(l.getD j 0).toNat, by have := y2 _ (getD_memI (l := l) (i := j) (by omega)); omega, by have := y2 _ (getD_memI (l := l) (i := j) (by omega)); omega⟩
          try simp (disch := first | omega | (simp only [L3] <;> omega)) only [Sall,evalOp,init,binA_s,binE,binI,unE,convE,okNil,builtE,gv,TD.isAgg,resV,↓reduceIte,Nat.reduceEqDiff,reduceCtorEq,Nat.reduceAdd,Nat.reduceMul,Nat.reduceLeDiff,quietOp,blindOp,Int.reduceEq,Int.reduceLT,Int.reduceLE,Nat.reduceLT,tiA,tiXA, h5, h3, h1, e1, ev, v1', v2, v4, hy]
          (repeat refine And.intro (by omega) ?_)
          try simp (disch := first | omega | (simp only [L3] <;> omega)) only [Sall,evalOp,init,binA_s,binE,binI,unE,convE,okNil,builtE,gv,TD.isAgg,resV,↓reduceIte,Nat.reduceEqDiff,reduceCtorEq,Nat.reduceAdd,Nat.reduceMul,Nat.reduceLeDiff,quietOp,blindOp,Int.reduceEq,Int.reduceLT,Int.reduceLE,Nat.reduceLT,tiA,tiXA, h5, h3, h1, e1, ev, v1', v2, v4, hy]
          refine awp_loop (fun m' t H' => ∃ k : Nat, m' = n - k ∧ k ≤ n ∧ t 7 = .int .i64 k ∧ t 6 = y ∧ t 5 = .int .i64 r ∧ t 3 = w ∧ t 1 = .pointer (some ⟨H.next, 0, none⟩) ∧ Ow H H' [.row H.next ⟨26, true, [.int .i64 n, .int .i64 g, v]⟩, .sl2 (Value.int .i64) 29 2 w (cntMx n (E ++ gxL n l (pgS g k)))]) n ?_ ?_
          · refine ⟨0, by omega, by omega, ?_⟩
            try simp (disch := first | omega | (simp only [L3] <;> omega)) only [Sall,evalOp,init,binA_s,binE,binI,unE,convE,okNil,builtE,gv,TD.isAgg,resV,↓reduceIte,Nat.reduceEqDiff,reduceCtorEq,Nat.reduceAdd,Nat.reduceMul,Nat.reduceLeDiff,quietOp,blindOp,Int.reduceEq,Int.reduceLT,Int.reduceLE,Nat.reduceLT,tiA,tiXA, Int.natCast_zero, h5, h3, h1]
            rw [show gxL n l (pgS g 0) = [] from rfl, List.append_nil]
            exact o3
          · rintro m' t H4 ⟨k, hm', hk, h7, h6, h5, h3, h1, o4⟩
            have e1 := (o4.rowAt 0 rfl).1
            try simp (disch := first | omega | (simp only [L3] <;> omega)) only [Sall,evalOp,init,binA_s,binE,binI,unE,convE,okNil,builtE,gv,TD.isAgg,resV,↓reduceIte,Nat.reduceEqDiff,reduceCtorEq,Nat.reduceAdd,Nat.reduceMul,Nat.reduceLeDiff,quietOp,blindOp,Int.reduceEq,Int.reduceLT,Int.reduceLE,Nat.reduceLT,tiA,tiXA, h7, h1, e1]
            refine condC_dec (fun hh2 => ?_) (fun hh2 => ?_)
            · have hkn : k < n := by omega
              obtain ⟨yi, yo, yu, yc, yr, ey, w1, w2, w3, _⟩ := (v3.same (o4.old hs)).get (by omega)
              have w4 := w3 k (by omega)
              obtain ⟨p, hp, hpn⟩ := hin k hkn
              rw [hp] at w4
              have hEl0 : (E ++ gxL n l (pgS g k)).length ≤ 100000 := by
                rw [List.length_append, gxL_length]
                have := pgS_length g k
                have h3 : k * g ≤ 25 * 25 := Nat.mul_le_mul (by omega) (by omega)
                omega
              obtain ⟨ai, vs, aq, row0, x0, ew, a1, a2, a3, _, _, _, _, a8, _⟩ := o4.inc 1 rfl hpn hpn (by omega)
              have di : Int.tdiv (k : Int) (g : Int) = ((k / g : Nat) : Int) := rfl
              have hg0 : ¬ (g : Int) = 0 := by omega
              have em : ((k / g : Nat) : Int) * (g : Int) = ((k / g * g : Nat) : Int) := (Int.natCast_mul _ _).symm
              have lA := Nat.div_mul_le_self k g
              have ld := Nat.div_le_self k g
              have hA : k / g * g + g ≤ n := by
                have h1 : k / g < c := by rw [Nat.div_lt_iff_lt_mul (by omega), Nat.mul_comm, ← hn]; exact hkn
                have h2 : (k / g + 1) * g ≤ c * g := Nat.mul_le_mul_right g h1
                rw [Nat.succ_mul, Nat.mul_comm c g, ← hn] at h2
                exact h2
              have wd : ∀ A : Nat, A ≤ 100 → IntKind.i64.wrap (A : Int) = A := fun A hA => w64 ⟨by omega, by omega⟩
              have wd1 := wd (k / g) (by omega)
              have wd2 := wd (k / g * g) (by omega)
              try simp (disch := first | omega | (simp only [L3] <;> omega)) only [Sall,evalOp,init,binA_s,binE,binI,unE,convE,okNil,builtE,gv,TD.isAgg,resV,↓reduceIte,Nat.reduceEqDiff,reduceCtorEq,Nat.reduceAdd,Nat.reduceMul,Nat.reduceLeDiff,quietOp,blindOp,Int.reduceEq,Int.reduceLT,Int.reduceLE,Nat.reduceLT,tiA,tiXA, h7, h6, h5, h3, h1, ey, w1, w4, ew, a1, a3]
              (repeat refine And.intro (by omega) ?_)
              have hix : 0 ≤ (p : Int) ∧ (p : Int) < n := by omega
              try simp (disch := first | omega | (simp only [L3] <;> omega)) only [Sall,evalOp,init,binA_s,binE,binI,unE,convE,okNil,builtE,gv,TD.isAgg,resV,↓reduceIte,Nat.reduceEqDiff,reduceCtorEq,Nat.reduceAdd,Nat.reduceMul,Nat.reduceLeDiff,quietOp,blindOp,Int.reduceEq,Int.reduceLT,Int.reduceLE,Nat.reduceLT,tiA,tiXA, h7, h6, h5, h3, h1, ey, w1, w4, ew, a1, a3, a2, hpn]
              refine draw_id (by kernel_rfl) (by kernel_rfl) ?_
              try simp (disch := first | omega | (simp only [L3] <;> omega)) only [Sall,evalOp,init,binA_s,binE,binI,unE,convE,okNil,builtE,gv,TD.isAgg,resV,↓reduceIte,Nat.reduceEqDiff,reduceCtorEq,Nat.reduceAdd,Nat.reduceMul,Nat.reduceLeDiff,quietOp,blindOp,Int.reduceEq,Int.reduceLT,Int.reduceLE,Nat.reduceLT,tiA,tiXA, h7, h1, e1, di, hg0, wd1, em, wd2, h6, h5, h3]
              (repeat refine And.intro (by omega) ?_)
              try simp (disch := first | omega | (simp only [L3] <;> omega)) only [Sall,evalOp,init,binA_s,binE,binI,unE,convE,okNil,builtE,gv,TD.isAgg,resV,↓reduceIte,Nat.reduceEqDiff,reduceCtorEq,Nat.reduceAdd,Nat.reduceMul,Nat.reduceLeDiff,quietOp,blindOp,Int.reduceEq,Int.reduceLT,Int.reduceLE,Nat.reduceLT,tiA,tiXA, h7, h1, e1, di, hg0, wd1, em, wd2, h6, h5, h3]
              rw [← ew]
              refine awp_loop (fun m2 t H' => ∃ j : Nat, m2 = g - j ∧ j ≤ g ∧ t 9 = .int .i64 ((k / g * g + j : Nat) : Int) ∧ t 8 = .slice (some ⟨aq, 0, some 1⟩) n n ∧ t 7 = .int .i64 k ∧ t 6 = y ∧ t 5 = .int .i64 r ∧ t 3 = w ∧ t 1 = .pointer (some ⟨H.next, 0, none⟩) ∧ H'.row ai = some ⟨29, true, vs⟩ ∧ Ow H H' [.row H.next ⟨26, true, [.int .i64 n, .int .i64 g, v]⟩, .sl2 (Value.int .i64) 29 2 w (cntMx n (E ++ gxL n l (pgS g k ++ pgT g k j)))]) g ?_ ?_
              · refine ⟨0, by omega, by omega, ?_⟩
                try simp (disch := first | omega | (simp only [L3] <;> omega)) only [Sall,evalOp,init,binA_s,binE,binI,unE,convE,okNil,builtE,gv,TD.isAgg,resV,↓reduceIte,Nat.reduceEqDiff,reduceCtorEq,Nat.reduceAdd,Nat.reduceMul,Nat.reduceLeDiff,quietOp,blindOp,Int.reduceEq,Int.reduceLT,Int.reduceLE,Nat.reduceLT,tiA,tiXA, Nat.add_zero, h7, h6, h5, h3, h1]
                rw [show pgT g k 0 = [] from rfl, List.append_nil]
                exact ⟨a1, o4⟩
              · rintro m2 t H5 ⟨j, hm2, hj, h9, h8, h7, h6, h5, h3, h1, hai, o5⟩
                have e1 := (o5.rowAt 0 rfl).1
                have eg2 : ((k / g * g : Nat) : Int) + (g : Int) = ((k / g * g + g : Nat) : Int) := by omega
                have wd3 := wd (k / g * g + g) (by omega)
                refine draw_id (by kernel_rfl) (by kernel_rfl) ?_
                try simp (disch := first | omega | (simp only [L3] <;> omega)) only [Sall,evalOp,init,binA_s,binE,binI,unE,convE,okNil,builtE,gv,TD.isAgg,resV,↓reduceIte,Nat.reduceEqDiff,reduceCtorEq,Nat.reduceAdd,Nat.reduceMul,Nat.reduceLeDiff,quietOp,blindOp,Int.reduceEq,Int.reduceLT,Int.reduceLE,Nat.reduceLT,tiA,tiXA, h9, h7, h1, e1, di, hg0, wd1, em, wd2, eg2, wd3]
                (repeat refine And.intro (by omega) ?_)
                try simp (disch := first | omega | (simp only [L3] <;> omega)) only [Sall,evalOp,init,binA_s,binE,binI,unE,convE,okNil,builtE,gv,TD.isAgg,resV,↓reduceIte,Nat.reduceEqDiff,reduceCtorEq,Nat.reduceAdd,Nat.reduceMul,Nat.reduceLeDiff,quietOp,blindOp,Int.reduceEq,Int.reduceLT,Int.reduceLE,Nat.reduceLT,tiA,tiXA, h9, h7, h1, e1, di, hg0, wd1, em, wd2, eg2, wd3]
                refine condC_dec (fun hh3 => ?_) (fun hh3 => ?_)
                · have hjg : j < g := by omega
                  obtain ⟨yi', yo', yu', yc', yr', ey', w1', w2', w3', _⟩ := (v3.same (o5.old hs)).get (by omega)
                  have w4' := w3' (k / g * g + j) (by omega)
                  obtain ⟨q, hq, hqn⟩ := hin (k / g * g + j) (by omega)
                  rw [hq] at w4'
                  have hEl : (E ++ gxL n l (pgS g k ++ pgT g k j)).length ≤ 100000 := by
                    rw [List.length_append, gxL_length, List.length_append]
                    have := pgS_length g k
                    have := pgT_length g k j
                    have h3 : k * g ≤ 25 * 25 := Nat.mul_le_mul (by omega) (by omega)
                    omega
                  have ecast : ((k / g * g + j : Nat) : Int) + 1 = ((k / g * g + (j + 1) : Nat) : Int) := by omega
                  have wd4 := wd (k / g * g + (j + 1)) (by omega)
                  by_cases e : k / g * g + j = k
                  · have eb : (((k / g * g + j : Nat) : Int) != (k : Int)) = false := by rw [e]; exact bne_self_eq_false _
                    try simp (disch := first | omega | (simp only [L3] <;> omega)) only [Sall,evalOp,init,binA_s,binE,binI,unE,convE,okNil,builtE,gv,TD.isAgg,resV,↓reduceIte,Nat.reduceEqDiff,reduceCtorEq,Nat.reduceAdd,Nat.reduceMul,Nat.reduceLeDiff,quietOp,blindOp,Int.reduceEq,Int.reduceLT,Int.reduceLE,Nat.reduceLT,tiA,tiXA, h9, h7, eb, ecast, wd4, h8, h6, h5, h3, h1]
                    refine ⟨g - (j + 1), by omega, j + 1, by omega, by omega, ?_⟩
                    rw [pgT_succ, if_pos e, List.append_nil]
                    exact ⟨rfl, hai, o5⟩
                  · have eb : (((k / g * g + j : Nat) : Int) != (k : Int)) = true := bne_iff_ne.2 (by omega)
                    obtain ⟨ai', vs', aq', row, x, ew', a1', a2', a3', a4', a5', a6', a7', a8', o6⟩ := o5.inc 1 rfl hpn hqn (by omega)
                    obtain rfl : ai = ai' := by rw [ew] at ew'; cases ew'; rfl
                    obtain rfl : vs = vs' := by rw [hai] at a1'; cases a1'; rfl
                    obtain rfl : aq = aq' := by rw [a3] at a3'; cases a3'; rfl
                    try simp (disch := first | omega | (simp only [L3] <;> omega)) only [Sall,evalOp,init,binA_s,binE,binI,unE,convE,okNil,builtE,gv,TD.isAgg,resV,↓reduceIte,Nat.reduceEqDiff,reduceCtorEq,Nat.reduceAdd,Nat.reduceMul,Nat.reduceLeDiff,quietOp,blindOp,Int.reduceEq,Int.reduceLT,Int.reduceLE,Nat.reduceLT,tiA,tiXA, h9, h7, eb, ecast, wd4, h8, h6, h5, h3, h1, ey', w1', w4', a4', a5', a6', ints_set, w64]
                    (repeat refine And.intro (by omega) ?_)
                    try simp (disch := first | omega | (simp only [L3] <;> omega)) only [Sall,evalOp,init,binA_s,binE,binI,unE,convE,okNil,builtE,gv,TD.isAgg,resV,↓reduceIte,Nat.reduceEqDiff,reduceCtorEq,Nat.reduceAdd,Nat.reduceMul,Nat.reduceLeDiff,quietOp,blindOp,Int.reduceEq,Int.reduceLT,Int.reduceLE,Nat.reduceLT,tiA,tiXA, h9, h7, eb, ecast, wd4, h8, h6, h5, h3, h1, ey', w1', w4', a4', a5', a6', ints_set, w64]
                    refine ⟨g - (j + 1), by omega, j + 1, by omega, by omega, rfl, by rw [if_neg (fun e => a8 e.symm)]; exact hai, ?_⟩
                    have eg : E ++ gxL n l (pgS g k ++ pgT g k (j + 1)) = E ++ gxL n l (pgS g k ++ pgT g k j) ++ [ixN n p q] := by
                      rw [pgT_succ, if_neg e, ← List.append_assoc, gxL_app n l (pgS g k ++ pgT g k j), ← List.append_assoc]
                      have e8 : gxL n l [(k, k / g * g + j)] = [ixN n p q] := by
                        unfold gxL
                        simp only [List.map_cons, List.map_nil, hp, hq, Int.toNat_natCast]
                      rw [e8]
                    rw [eg]
                    exact o6
                · have hje : j = g := by omega
                  subst hje
                  try simp (disch := first | omega | (simp only [L3] <;> omega)) only [Sall,evalOp,init,binA_s,binE,binI,unE,convE,okNil,builtE,gv,TD.isAgg,resV,↓reduceIte,Nat.reduceEqDiff,reduceCtorEq,Nat.reduceAdd,Nat.reduceMul,Nat.reduceLeDiff,quietOp,blindOp,Int.reduceEq,Int.reduceLT,Int.reduceLE,Nat.reduceLT,tiA,tiXA, h7, h6, h5, h3, h1, w64]
                  refine ⟨n - (k + 1), by omega, k + 1, by omega, by omega, ?_⟩
                  rw [pgS_succ]
                  exact ⟨rfl, o5⟩
            · have hke : k = n := by omega
              subst hke
              try simp (disch := first | omega | (simp only [L3] <;> omega)) only [Sall,evalOp,init,binA_s,binE,binI,unE,convE,okNil,builtE,gv,TD.isAgg,resV,↓reduceIte,Nat.reduceEqDiff,reduceCtorEq,Nat.reduceAdd,Nat.reduceMul,Nat.reduceLeDiff,quietOp,blindOp,Int.reduceEq,Int.reduceLT,Int.reduceLE,Nat.reduceLT,tiA,tiXA, h5, h3, h1, w64]
              refine ⟨R.length - (r + 1), by omega, r + 1, by omega, by omega, ?_⟩
              rw [hgs]
              exact ⟨rfl, o4⟩
        · have hre : r = R.length := by omega
          subst hre
          try simp (disch := first | omega | (simp only [L3] <;> omega)) only [Sall,evalOp,init,binA_s,binE,binI,unE,convE,okNil,builtE,gv,TD.isAgg,resV,↓reduceIte,Nat.reduceEqDiff,reduceCtorEq,Nat.reduceAdd,Nat.reduceMul,Nat.reduceLeDiff,quietOp,blindOp,Int.reduceEq,Int.reduceLT,Int.reduceLE,Nat.reduceLT,tiA,tiXA, h3]
          exact o3.only 1 rfl
end Go.Proofs.Ytpienljnoaendaa.A
end

section
set_option maxRecDepth 100000
set_option maxHeartbeats 2000000
namespace Go.Proofs.Ytpienljnoaendaa.A
open Go Go.Abs Go.RowKit
theorem GolfMeetings_c (q g : Int) (v : Value) (R : List (List Int)) (H : AH) (hv : Rg H v R) (hl : R.length ≤ 4194304) (hl2 : ∀ r ∈ R, r.length ≤ 4194304) :
    ACalls Try.prog 9 [.agg #[.int .i64 q, .int .i64 g, v]] H (fun r H' => ∃ w, r = .tuple #[w, .int .i64 (glC q g R true)] ∧ Ow H H' [.sl2 (Value.int .i64) 29 2 w (gmV q g R)]) := by
  refine ACalls.wf (by kernel_rfl) fun hs => acalls_of_awp [.tmp 2, .tmp 3] Try.func9 (by kernel_rfl) rfl rfl (Nat.le_of_ble_eq_true rfl) (by kernel_rfl) ?_
  have hone := hv.one
  have o1 := golf_push hs q g v
  try simp (disch := first | omega | (simp only [L3] <;> omega)) only [Sall,evalOp,init,binA_s,binE,binI,unE,convE,okNil,builtE,gv,TD.isAgg,resV,↓reduceIte,Nat.reduceEqDiff,reduceCtorEq,Nat.reduceAdd,Nat.reduceMul,Nat.reduceLeDiff,quietOp,blindOp,Int.reduceEq,Int.reduceLT,Int.reduceLE,Nat.reduceLT,tiA,tiXA, hone]
  obtain ⟨pi, epi⟩ : ∃ pi, pi = H.next := ⟨_, rfl⟩
  rw [← epi] at o1 ⊢
  generalize H.push ⟨26, true, [.int .i64 q, .int .i64 g, v]⟩ = H1 at o1 ⊢
  have e1 := (o1.rowAt 0 rfl).1
  have hv1 := hv.same (o1.old hs)
  try simp (disch := first | omega | (simp only [L3] <;> omega)) only [Sall,evalOp,init,binA_s,binE,binI,unE,convE,okNil,builtE,gv,TD.isAgg,resV,↓reduceIte,Nat.reduceEqDiff,reduceCtorEq,Nat.reduceAdd,Nat.reduceMul,Nat.reduceLeDiff,quietOp,blindOp,Int.reduceEq,Int.reduceLT,Int.reduceLE,Nat.reduceLT,tiA,tiXA, e1, hone]
  refine (golfCode_c q g v R true H1 hv1.rd2 hl hl2).to ?_
  refine Holds.mp ?_
  unfold gmV
  cases hE : golfB q g R with
  | false =>
    have e2 : glC q g R true = 1 := by unfold glC; rw [hE, if_neg (by simp)]
    have e3 : ((1 : Int) != 0) = true := rfl
    rw [e2, if_neg (by simp)]
    try simp (disch := first | omega | (simp only [L3] <;> omega)) only [Sall,evalOp,init,binA_s,binE,binI,unE,convE,okNil,builtE,gv,TD.isAgg,resV,↓reduceIte,Nat.reduceEqDiff,reduceCtorEq,Nat.reduceAdd,Nat.reduceMul,Nat.reduceLeDiff,quietOp,blindOp,Int.reduceEq,Int.reduceLT,Int.reduceLE,Nat.reduceLT,tiA,tiXA, e3]
    exact ⟨_, rfl, Ow.left (L := []) o1 |>.addNil2⟩
  | true =>
    have e2 : glC q g R true = 0 := by unfold glC; rw [hE, if_pos rfl, if_pos rfl]
    have e3 : ((0 : Int) != 0) = false := rfl
    obtain ⟨n, gN, c, rfl, rfl, q0, q1, q2, q3, q4, q5, q6, q7⟩ := golfB_at hE
    rw [e2, if_pos rfl]
    try simp (disch := first | omega | (simp only [L3] <;> omega)) only [Sall,evalOp,init,binA_s,binE,binI,unE,convE,okNil,builtE,gv,TD.isAgg,resV,↓reduceIte,Nat.reduceEqDiff,reduceCtorEq,Nat.reduceAdd,Nat.reduceMul,Nat.reduceLeDiff,quietOp,blindOp,Int.reduceEq,Int.reduceLT,Int.reduceLE,Nat.reduceLT,tiA,tiXA, e3, e1, hone]
    refine ACalls.mono (gMeetings_c n gN c q1 q0 q4 q5 v R H1 hv1 q6 q7) ?_
    intro w H2 o2
    have hw := (o2.rd2 0 rfl).one
    refine Holds.mp ?_
    try simp (disch := first | omega | (simp only [L3] <;> omega)) only [Sall,evalOp,init,binA_s,binE,binI,unE,convE,okNil,builtE,gv,TD.isAgg,resV,↓reduceIte,Nat.reduceEqDiff,reduceCtorEq,Nat.reduceAdd,Nat.reduceMul,Nat.reduceLeDiff,quietOp,blindOp,Int.reduceEq,Int.reduceLT,Int.reduceLE,Nat.reduceLT,tiA,tiXA, hw]
    exact ⟨w, rfl, (o1.call o2).only 1 rfl⟩
theorem specGolfMeetings_c (q g : Int) (v : Value) (R : List (List Int)) (H : AH) (hv : Rd2 1 H v R) (hl : R.length ≤ 4194304) (hl2 : ∀ r ∈ R, r.length ≤ 4194304) :
    ACalls Try.prog 10 [.agg #[.int .i64 q, .int .i64 g, v]] H (fun r H' => ∃ w, r = .tuple #[w, .int .i64 (glC q g R true)] ∧ Ow H H' [.sl2 (Value.int .i64) 29 2 w (gmV q g R)]) := by
  refine ACalls.wf (by kernel_rfl) fun hs => acalls_of_awp [.tmp 2, .tmp 3] Try.func10 (by kernel_rfl) rfl rfl (Nat.le_of_ble_eq_true rfl) (by kernel_rfl) ?_
  have hone := hv.one
  have o1 := golf_push hs q g v
  try simp (disch := first | omega | (simp only [L3] <;> omega)) only [Sall,evalOp,init,binA_s,binE,binI,unE,convE,okNil,builtE,gv,TD.isAgg,resV,↓reduceIte,Nat.reduceEqDiff,reduceCtorEq,Nat.reduceAdd,Nat.reduceMul,Nat.reduceLeDiff,quietOp,blindOp,Int.reduceEq,Int.reduceLT,Int.reduceLE,Nat.reduceLT,tiA,tiXA, hone]
  obtain ⟨pi, epi⟩ : ∃ pi, pi = H.next := ⟨_, rfl⟩
  rw [← epi] at o1 ⊢
  generalize H.push ⟨26, true, [.int .i64 q, .int .i64 g, v]⟩ = H1 at o1 ⊢
  have e1 := (o1.rowAt 0 rfl).1
  have hv1 := hv.same (o1.old hs)
  try simp (disch := first | omega | (simp only [L3] <;> omega)) only [Sall,evalOp,init,binA_s,binE,binI,unE,convE,okNil,builtE,gv,TD.isAgg,resV,↓reduceIte,Nat.reduceEqDiff,reduceCtorEq,Nat.reduceAdd,Nat.reduceMul,Nat.reduceLeDiff,quietOp,blindOp,Int.reduceEq,Int.reduceLT,Int.reduceLE,Nat.reduceLT,tiA,tiXA, e1, hone]
  refine (l08Is_c q g v R H1 hv1 hl hl2).to ?_
  refine Holds.mp ?_
  unfold gmV
  cases hE : golfB q g R with
  | false =>
    have e2 : glC q g R true = 1 := by unfold glC; rw [hE, if_neg (by simp)]
    rw [e2, if_neg (by simp)]
    try simp (disch := first | omega | (simp only [L3] <;> omega)) only [Sall,evalOp,init,binA_s,binE,binI,unE,convE,okNil,builtE,gv,TD.isAgg,resV,↓reduceIte,Nat.reduceEqDiff,reduceCtorEq,Nat.reduceAdd,Nat.reduceMul,Nat.reduceLeDiff,quietOp,blindOp,Int.reduceEq,Int.reduceLT,Int.reduceLE,Nat.reduceLT,tiA,tiXA, Bool.not_false]
    exact ⟨_, rfl, Ow.left (L := []) o1 |>.addNil2⟩
  | true =>
    have e2 : glC q g R true = 0 := by unfold glC; rw [hE, if_pos rfl, if_pos rfl]
    obtain ⟨n, gN, c, rfl, rfl, q0, q1, q2, q3, q4, q5, q6, q7⟩ := golfB_at hE
    rw [e2, if_pos rfl]
    try simp (disch := first | omega | (simp only [L3] <;> omega)) only [Sall,evalOp,init,binA_s,binE,binI,unE,convE,okNil,builtE,gv,TD.isAgg,resV,↓reduceIte,Nat.reduceEqDiff,reduceCtorEq,Nat.reduceAdd,Nat.reduceMul,Nat.reduceLeDiff,quietOp,blindOp,Int.reduceEq,Int.reduceLT,Int.reduceLE,Nat.reduceLT,tiA,tiXA, Bool.not_true, e1, hone]
    refine ACalls.mono (l08Meetings_c n gN c q1 q0 q4 q5 v R H1 hv1 q6 q7) ?_
    intro w H2 o2
    have hw := (o2.rd2 0 rfl).one
    refine Holds.mp ?_
    try simp (disch := first | omega | (simp only [L3] <;> omega)) only [Sall,evalOp,init,binA_s,binE,binI,unE,convE,okNil,builtE,gv,TD.isAgg,resV,↓reduceIte,Nat.reduceEqDiff,reduceCtorEq,Nat.reduceAdd,Nat.reduceMul,Nat.reduceLeDiff,quietOp,blindOp,Int.reduceEq,Int.reduceLT,Int.reduceLE,Nat.reduceLT,tiA,tiXA, hw]
    exact ⟨w, rfl, (o1.call o2).only 1 rfl⟩
end Go.Proofs.Ytpienljnoaendaa.A
end

section
set_option maxRecDepth 100000
set_option maxHeartbeats 2000000
namespace Go.Proofs.Ytpienljnoaendaa.A
open Go Go.Abs Go.RowKit
theorem NotMet_c (q g : Int) (v : Value) (R : List (List Int)) (a : Int) (H : AH) (hq : -1000 ≤ q ∧ q ≤ 1000) (hv : Rg H v R) (hl : R.length ≤ 4194304) (hl2 : ∀ r ∈ R, r.length ≤ 4194304) :
    ACalls Try.prog 12 [.agg #[.int .i64 q, .int .i64 g, v], .int .i64 a] H (fun r H' => ∃ w, r = .tuple #[w, .int .i64 (glC q g R (decide (0 ≤ a ∧ a ≤ q - 1)))] ∧ Ow H H' [.sl 1 2 w (nmV q g R a).length (ints (nmV q g R a))]) := by
  refine ACalls.wf (by kernel_rfl) fun hs => acalls_of_awp [.tmp 4, .tmp 5] Try.func12 (by kernel_rfl) rfl rfl (Nat.le_of_ble_eq_true rfl) (by kernel_rfl) ?_
  have hone := hv.one
  have o1 := golf_push hs q g v
  try simp (disch := first | omega | (simp only [L3] <;> omega)) only [Sall,evalOp,init,binA_s,binE,binI,unE,convE,okNil,builtE,gv,TD.isAgg,resV,↓reduceIte,Nat.reduceEqDiff,reduceCtorEq,Nat.reduceAdd,Nat.reduceMul,Nat.reduceLeDiff,quietOp,blindOp,Int.reduceEq,Int.reduceLT,Int.reduceLE,Nat.reduceLT,tiA,tiXA, hone]
  obtain ⟨pi, epi⟩ : ∃ pi, pi = H.next := ⟨_, rfl⟩
  rw [← epi] at o1 ⊢
  generalize H.push ⟨26, true, [.int .i64 q, .int .i64 g, v]⟩ = H1 at o1 ⊢
  have e1 := (o1.rowAt 0 rfl).1
  have hv1 := hv.same (o1.old hs)
  refine draw_id (by kernel_rfl) (by kernel_rfl) ?_
  try simp (disch := first | omega | (simp only [L3] <;> omega)) only [Sall,evalOp,init,binA_s,binE,binI,unE,convE,okNil,builtE,gv,TD.isAgg,resV,↓reduceIte,Nat.reduceEqDiff,reduceCtorEq,Nat.reduceAdd,Nat.reduceMul,Nat.reduceLeDiff,quietOp,blindOp,Int.reduceEq,Int.reduceLT,Int.reduceLE,Nat.reduceLT,tiA,tiXA, e1, hone]
  refine (hasPlayer_c q g v a H1 hone (by omega)).to ?_
  refine ⟨.inr (.inr (LE.refl _)), ?_⟩
  try simp (disch := first | omega | (simp only [L3] <;> omega)) only [Sall,evalOp,init,binA_s,binE,binI,unE,convE,okNil,builtE,gv,TD.isAgg,resV,↓reduceIte,Nat.reduceEqDiff,reduceCtorEq,Nat.reduceAdd,Nat.reduceMul,Nat.reduceLeDiff,quietOp,blindOp,Int.reduceEq,Int.reduceLT,Int.reduceLE,Nat.reduceLT,tiA,tiXA, e1, hone]
  refine (golfCode_c q g v R _ H1 hv1.rd2 hl hl2).to ?_
  refine ⟨.inr (.inr (LE.refl _)), ?_⟩
  try simp (disch := first | omega | (simp only [L3] <;> omega)) only [Sall,evalOp,init,binA_s,binE,binI,unE,convE,okNil,builtE,gv,TD.isAgg,resV,↓reduceIte,Nat.reduceEqDiff,reduceCtorEq,Nat.reduceAdd,Nat.reduceMul,Nat.reduceLeDiff,quietOp,blindOp,Int.reduceEq,Int.reduceLT,Int.reduceLE,Nat.reduceLT,tiA,tiXA, true_and]
  by_cases hz : glC q g R (decide (0 ≤ a ∧ a ≤ q - 1)) = 0
  · obtain ⟨hE, hD⟩ := glC_yes hz
    have hD := of_decide_eq_true hD
    have e3 : ((0 : Int) != 0) = false := rfl
    have eV : nmV q g R a = nmL (gmM q.toNat g.toNat R) a.toNat q.toNat := by unfold nmV; rw [if_pos ⟨hE, hD⟩]
    rw [hz, eV]
    obtain ⟨n, gN, c, rfl, rfl, q0, q1, q2, q3, q4, q5, q6, q7⟩ := golfB_at hE
    obtain ⟨aN, rfl⟩ : ∃ aN : Nat, a = aN := ⟨a.toNat, by omega⟩
    simp only [Int.toNat_natCast]
    have o2 := o1.pushSl (k := 1) (n := 0) (ty := 2) (vs := []) rfl
    have np : ¬ pi = H1.next := by have := (o1.rowAt 0 rfl).2.2; omega
    try simp (disch := first | omega | (simp only [L3] <;> omega)) only [Sall,evalOp,init,binA_s,binE,binI,unE,convE,okNil,builtE,gv,TD.isAgg,resV,↓reduceIte,Nat.reduceEqDiff,reduceCtorEq,Nat.reduceAdd,Nat.reduceMul,Nat.reduceLeDiff,quietOp,blindOp,Int.reduceEq,Int.reduceLT,Int.reduceLE,Nat.reduceLT,tiA,tiXA, e3, e1, np, hone]
    (repeat refine And.intro (by omega) ?_)
    refine ACalls.mono (gMeetings_c n gN c q1 q0 q4 q5 v R _ (hv.same (o2.old hs)) q6 q7) ?_
    intro w H2 o3
    have o4 := o2.call o3
    have hsq := gmM_sq n gN R
    have hrl := hsq.2 aN (by omega)
    generalize gmM n gN R = M at *
    obtain ⟨ws, o5⟩ := o4.sl2See 2 rfl
    have o5 : Ow H H2 [.row pi ⟨26, true, [.int .i64 n, .int .i64 gN, v]⟩, .sl 1 2 (.slice (some ⟨H1.next, 0, some 1⟩) 0 0) 0 [], .see (Rc w ws M)] := o5
    obtain ⟨hro, hwr⟩ := o5.sees 2 rfl
    obtain ⟨x, hx, hxr⟩ := hro.2 aN (by rw [hsq.1]; omega)
    have hwl : ws.length = n := by rw [hro.1]; exact hsq.1
    rcases hwr with ⟨_, e0⟩ | ⟨wi, wo, wu, wc, wr, ew, w1, w2, w3⟩
    · rw [e0] at hwl; simp at hwl; omega
    have w4 : wr.cells[wo + aN]? = some x := by
      rw [← w3] at hx
      simp only [seg, List.getElem?_take, List.getElem?_drop] at hx
      rw [if_pos (by omega)] at hx
      exact hx
    have w5 := fun r => ok_one (r := r) hxr.rd.one
    rw [hrl] at hxr
    have hxl := hxr.rd.len
    have hxo := hxr.rd.one
    refine Holds.mp ?_
    try simp (disch := first | omega | (simp only [L3] <;> omega)) only [Sall,evalOp,init,binA_s,binE,binI,unE,convE,okNil,builtE,gv,TD.isAgg,resV,↓reduceIte,Nat.reduceEqDiff,reduceCtorEq,Nat.reduceAdd,Nat.reduceMul,Nat.reduceLeDiff,quietOp,blindOp,Int.reduceEq,Int.reduceLT,Int.reduceLE,Nat.reduceLT,tiA,tiXA, ew, w1, w4, w5, hwl, builtE, hxl, hxo]
    refine ⟨⟨by omega, by omega⟩, ?_⟩
    have hin : ∀ H' : AH, Rc w ws M H' → Rd 1 H' x n (M.getD aN []) := fun H' hc => by
      obtain ⟨x', h1, h2⟩ := hc.1.2 aN (by rw [hsq.1]; omega)
      rw [hx] at h1
      cases h1
      rw [hrl] at h2
      exact h2.rd
    clear hxr w1 w2 w3 w4 o4 o3
    refine awp_loop (fun m t H' => ∃ (b : Nat) (u : Value), m = n - b ∧ b ≤ n ∧ t 25 = .int .i64 b ∧ t 24 = .int .i64 n ∧ t 23 = x ∧ t 1 = .int .i64 aN ∧ t 7 = u ∧ Ow H H' [.row pi ⟨26, true, [.int .i64 n, .int .i64 gN, v]⟩, .sl 1 2 u (nmL M aN b).length (ints (nmL M aN b)), .see (Rc w ws M)]) n ?_ ?_
    · refine ⟨0, .slice (some ⟨H1.next, 0, some 1⟩) 0 0, by omega, by omega, ?_⟩
      try simp (disch := first | omega | (simp only [L3] <;> omega)) only [Sall,evalOp,init,binA_s,binE,binI,unE,convE,okNil,builtE,gv,TD.isAgg,resV,↓reduceIte,Nat.reduceEqDiff,reduceCtorEq,Nat.reduceAdd,Nat.reduceMul,Nat.reduceLeDiff,quietOp,blindOp,Int.reduceEq,Int.reduceLT,Int.reduceLE,Nat.reduceLT,tiA,tiXA, Int.natCast_zero]
      exact o5
    · rintro m t H3 ⟨b, u, hm, hb, h25, h24, h23, h1, h7, o6⟩
      try simp (disch := first | omega | (simp only [L3] <;> omega)) only [Sall,evalOp,init,binA_s,binE,binI,unE,convE,okNil,builtE,gv,TD.isAgg,resV,↓reduceIte,Nat.reduceEqDiff,reduceCtorEq,Nat.reduceAdd,Nat.reduceMul,Nat.reduceLeDiff,quietOp,blindOp,Int.reduceEq,Int.reduceLT,Int.reduceLE,Nat.reduceLT,tiA,tiXA, h25, h24]
      refine condC_dec (fun hh => ?_) (fun hh => ?_)
      · obtain ⟨xi, xo, xu, xc, xr, ex, x1, x2, x3, _⟩ := (hin H3 (o6.sees 2 rfl)).get (by omega)
        have x4 := x3 b (by omega)
        have hu := o6.one 1 rfl
        have hnl := nmL_length M aN b
        by_cases c1 : b = aN
        · have f1 : ((b : Int) != (aN : Int)) = false := by rw [c1]; exact bne_self_eq_false _
          try simp (disch := first | omega | (simp only [L3] <;> omega)) only [Sall,evalOp,init,binA_s,binE,binI,unE,convE,okNil,builtE,gv,TD.isAgg,resV,↓reduceIte,Nat.reduceEqDiff,reduceCtorEq,Nat.reduceAdd,Nat.reduceMul,Nat.reduceLeDiff,quietOp,blindOp,Int.reduceEq,Int.reduceLT,Int.reduceLE,Nat.reduceLT,tiA,tiXA, h25, h24, h23, h1, h7, ex, x1, x4, f1, w64]
          (repeat refine And.intro (by omega) ?_)
          try simp (disch := first | omega | (simp only [L3] <;> omega)) only [Sall,evalOp,init,binA_s,binE,binI,unE,convE,okNil,builtE,gv,TD.isAgg,resV,↓reduceIte,Nat.reduceEqDiff,reduceCtorEq,Nat.reduceAdd,Nat.reduceMul,Nat.reduceLeDiff,quietOp,blindOp,Int.reduceEq,Int.reduceLT,Int.reduceLE,Nat.reduceLT,tiA,tiXA, h25, h24, h23, h1, h7, ex, x1, x4, f1, w64]
          refine ⟨n - (b + 1), by omega, b + 1, u, by omega, by omega, rfl, rfl, ?_⟩
          have e9 : nmL M aN (b + 1) = nmL M aN b := by rw [nmL, if_neg (fun h => h.1 c1), List.append_nil]
          rw [e9]; exact o6
        · have f1 : ((b : Int) != (aN : Int)) = true := bne_iff_ne.2 (by omega)
          by_cases c2 : (M.getD aN []).getD b 0 = 0
          · have f2 : ((M.getD aN []).getD b 0 == 0) = true := beq_iff_eq.2 c2
            have zz : zeros 1 [.int .i64 0] = [.int .i64 0] := rfl
            try simp (disch := first | omega | (simp only [L3] <;> omega)) only [Sall,evalOp,init,binA_s,binE,binI,unE,convE,okNil,builtE,gv,TD.isAgg,resV,↓reduceIte,Nat.reduceEqDiff,reduceCtorEq,Nat.reduceAdd,Nat.reduceMul,Nat.reduceLeDiff,quietOp,blindOp,Int.reduceEq,Int.reduceLT,Int.reduceLE,Nat.reduceLT,tiA,tiXA, h25, h24, h23, h1, h7, ex, x1, x4, f1, f2, zz, hu, slCells, w64]
            (repeat refine And.intro (by omega) ?_)
            try simp (disch := first | omega | (simp only [L3] <;> omega)) only [Sall,evalOp,init,binA_s,binE,binI,unE,convE,okNil,builtE,gv,TD.isAgg,resV,↓reduceIte,Nat.reduceEqDiff,reduceCtorEq,Nat.reduceAdd,Nat.reduceMul,Nat.reduceLeDiff,quietOp,blindOp,Int.reduceEq,Int.reduceLT,Int.reduceLE,Nat.reduceLT,tiA,tiXA, h25, h24, h23, h1, h7, ex, x1, x4, f1, f2, zz, hu, slCells, w64]
            refine (o6.tmp ⟨2, true, [.int .i64 b]⟩).app 1 (c := 1) (ms := ints [(b : Int)]) rfl rfl (by omega) rfl (by omega) (by decide) (by omega) ?_
            intro v' H4 n4 o7
            rw [ints_append] at o7
            try simp (disch := first | omega | (simp only [L3] <;> omega)) only [Sall,evalOp,init,binA_s,binE,binI,unE,convE,okNil,builtE,gv,TD.isAgg,resV,↓reduceIte,Nat.reduceEqDiff,reduceCtorEq,Nat.reduceAdd,Nat.reduceMul,Nat.reduceLeDiff,quietOp,blindOp,Int.reduceEq,Int.reduceLT,Int.reduceLE,Nat.reduceLT,tiA,tiXA, h25, h24, h23, h1, w64]
            refine ⟨n - (b + 1), by omega, b + 1, v', by omega, by omega, rfl, rfl, ?_⟩
            have e9 : nmL M aN (b + 1) = nmL M aN b ++ [(b : Int)] := by rw [nmL, if_pos ⟨c1, c2⟩]
            rw [e9, List.length_append]; exact o7
          · have f2 : ((M.getD aN []).getD b 0 == 0) = false := beq_eq_false_iff_ne.2 c2
            try simp (disch := first | omega | (simp only [L3] <;> omega)) only [Sall,evalOp,init,binA_s,binE,binI,unE,convE,okNil,builtE,gv,TD.isAgg,resV,↓reduceIte,Nat.reduceEqDiff,reduceCtorEq,Nat.reduceAdd,Nat.reduceMul,Nat.reduceLeDiff,quietOp,blindOp,Int.reduceEq,Int.reduceLT,Int.reduceLE,Nat.reduceLT,tiA,tiXA, h25, h24, h23, h1, h7, ex, x1, x4, f1, f2, w64]
            (repeat refine And.intro (by omega) ?_)
            try simp (disch := first | omega | (simp only [L3] <;> omega)) only [Sall,evalOp,init,binA_s,binE,binI,unE,convE,okNil,builtE,gv,TD.isAgg,resV,↓reduceIte,Nat.reduceEqDiff,reduceCtorEq,Nat.reduceAdd,Nat.reduceMul,Nat.reduceLeDiff,quietOp,blindOp,Int.reduceEq,Int.reduceLT,Int.reduceLE,Nat.reduceLT,tiA,tiXA, h25, h24, h23, h1, h7, ex, x1, x4, f1, f2, w64]
            refine ⟨n - (b + 1), by omega, b + 1, u, by omega, by omega, rfl, rfl, ?_⟩
            have e9 : nmL M aN (b + 1) = nmL M aN b := by rw [nmL, if_neg (fun h => c2 h.2), List.append_nil]
            rw [e9]; exact o6
      · have hbe : b = n := by omega
        rw [hbe] at o6
        have hu := o6.one 1 rfl
        try simp (disch := first | omega | (simp only [L3] <;> omega)) only [Sall,evalOp,init,binA_s,binE,binI,unE,convE,okNil,builtE,gv,TD.isAgg,resV,↓reduceIte,Nat.reduceEqDiff,reduceCtorEq,Nat.reduceAdd,Nat.reduceMul,Nat.reduceLeDiff,quietOp,blindOp,Int.reduceEq,Int.reduceLT,Int.reduceLE,Nat.reduceLT,tiA,tiXA, h7, hu]
        exact ⟨u, rfl, o6.only 1 rfl⟩
  · have e3 : (glC q g R (decide (0 ≤ a ∧ a ≤ q - 1)) != 0) = true := bne_iff_ne.2 hz
    have eV : nmV q g R a = [] := by
      unfold nmV
      rw [if_neg]
      rintro ⟨h1, h2⟩
      apply hz
      unfold glC
      rw [if_pos h1, if_pos (decide_eq_true h2)]
    rw [eV]
    try simp (disch := first | omega | (simp only [L3] <;> omega)) only [Sall,evalOp,init,binA_s,binE,binI,unE,convE,okNil,builtE,gv,TD.isAgg,resV,↓reduceIte,Nat.reduceEqDiff,reduceCtorEq,Nat.reduceAdd,Nat.reduceMul,Nat.reduceLeDiff,quietOp,blindOp,Int.reduceEq,Int.reduceLT,Int.reduceLE,Nat.reduceLT,tiA,tiXA, e3]
    exact ⟨_, rfl, Ow.left (L := []) o1 |>.addNil 1 _⟩
theorem specNotMet_c (q g : Int) (v : Value) (R : List (List Int)) (a : Int) (H : AH) (hq : -1000 ≤ q ∧ q ≤ 1000) (hv : Rd2 1 H v R) (hl : R.length ≤ 4194304) (hl2 : ∀ r ∈ R, r.length ≤ 4194304) :
    ACalls Try.prog 13 [.agg #[.int .i64 q, .int .i64 g, v], .int .i64 a] H (fun r H' => ∃ w, r = .tuple #[w, .int .i64 (glC q g R (decide (0 ≤ a ∧ a ≤ q - 1)))] ∧ Ow H H' [.sl 1 2 w (nmV q g R a).length (ints (nmV q g R a))]) := by
  refine ACalls.wf (by kernel_rfl) fun hs => acalls_of_awp [.tmp 4, .tmp 5] Try.func13 (by kernel_rfl) rfl rfl (Nat.le_of_ble_eq_true rfl) (by kernel_rfl) ?_
  have hone := hv.one
  have o1 := golf_push hs q g v
  try simp (disch := first | omega | (simp only [L3] <;> omega)) only [Sall,evalOp,init,binA_s,binE,binI,unE,convE,okNil,builtE,gv,TD.isAgg,resV,↓reduceIte,Nat.reduceEqDiff,reduceCtorEq,Nat.reduceAdd,Nat.reduceMul,Nat.reduceLeDiff,quietOp,blindOp,Int.reduceEq,Int.reduceLT,Int.reduceLE,Nat.reduceLT,tiA,tiXA, hone]
  obtain ⟨pi, epi⟩ : ∃ pi, pi = H.next := ⟨_, rfl⟩
  rw [← epi] at o1 ⊢
  generalize H.push ⟨26, true, [.int .i64 q, .int .i64 g, v]⟩ = H1 at o1 ⊢
  have e1 := (o1.rowAt 0 rfl).1
  have hv1 := hv.same (o1.old hs)
  try simp (disch := first | omega | (simp only [L3] <;> omega)) only [Sall,evalOp,init,binA_s,binE,binI,unE,convE,okNil,builtE,gv,TD.isAgg,resV,↓reduceIte,Nat.reduceEqDiff,reduceCtorEq,Nat.reduceAdd,Nat.reduceMul,Nat.reduceLeDiff,quietOp,blindOp,Int.reduceEq,Int.reduceLT,Int.reduceLE,Nat.reduceLT,tiA,tiXA, e1, hone]
  refine (l08Is_c q g v R H1 hv1 hl hl2).to ?_
  refine Holds.mp ?_
  cases hE : golfB q g R with
  | false =>
    have eV : nmV q g R a = [] := by unfold nmV; rw [if_neg (by rw [hE]; simp)]
    have eC : glC q g R (decide (0 ≤ a ∧ a ≤ q - 1)) = 1 := by unfold glC; rw [hE, if_neg (by simp)]
    rw [eV, eC]
    try simp (disch := first | omega | (simp only [L3] <;> omega)) only [Sall,evalOp,init,binA_s,binE,binI,unE,convE,okNil,builtE,gv,TD.isAgg,resV,↓reduceIte,Nat.reduceEqDiff,reduceCtorEq,Nat.reduceAdd,Nat.reduceMul,Nat.reduceLeDiff,quietOp,blindOp,Int.reduceEq,Int.reduceLT,Int.reduceLE,Nat.reduceLT,tiA,tiXA, Bool.not_false]
    exact ⟨_, rfl, Ow.left (L := []) o1 |>.addNil 1 _⟩
  | true =>
    try simp (disch := first | omega | (simp only [L3] <;> omega)) only [Sall,evalOp,init,binA_s,binE,binI,unE,convE,okNil,builtE,gv,TD.isAgg,resV,↓reduceIte,Nat.reduceEqDiff,reduceCtorEq,Nat.reduceAdd,Nat.reduceMul,Nat.reduceLeDiff,quietOp,blindOp,Int.reduceEq,Int.reduceLT,Int.reduceLE,Nat.reduceLT,tiA,tiXA, Bool.not_true, e1, w64]
    refine (l01In_c _ _ _ _).to ?_
    refine Holds.mp ?_
    by_cases hD : 0 ≤ a ∧ a ≤ q - 1
    · have eV : nmV q g R a = nmL (gmM q.toNat g.toNat R) a.toNat q.toNat := by unfold nmV; rw [if_pos ⟨hE, hD⟩]
      have eC : glC q g R (decide (0 ≤ a ∧ a ≤ q - 1)) = 0 := by unfold glC; rw [hE, if_pos rfl, if_pos (decide_eq_true hD)]
      rw [decide_eq_true hD] at eC ⊢
      rw [eC, eV]
      obtain ⟨n, gN, c, rfl, rfl, q0, q1, q2, q3, q4, q5, q6, q7⟩ := golfB_at hE
      obtain ⟨aN, rfl⟩ : ∃ aN : Nat, a = aN := ⟨a.toNat, by omega⟩
      simp only [Int.toNat_natCast]
      try simp (disch := first | omega | (simp only [L3] <;> omega)) only [Sall,evalOp,init,binA_s,binE,binI,unE,convE,okNil,builtE,gv,TD.isAgg,resV,↓reduceIte,Nat.reduceEqDiff,reduceCtorEq,Nat.reduceAdd,Nat.reduceMul,Nat.reduceLeDiff,quietOp,blindOp,Int.reduceEq,Int.reduceLT,Int.reduceLE,Nat.reduceLT,tiA,tiXA, Bool.not_true, e1, hone]
      refine ACalls.mono (l08Meetings_c n gN c q1 q0 q4 q5 v R H1 hv1 q6 q7) ?_
      intro w H2 o3
      have o4 := o1.call o3
      have hsq := gmM_sq n gN R
      have hrl := hsq.2 aN (by omega)
      generalize gmM n gN R = M at *
      obtain ⟨ws, o5⟩ := o4.sl2See 1 rfl
      have o6 := o5.pushSl (k := 1) (n := 0) (ty := 2) (vs := []) rfl
      have o6 : Ow H (H2.push ⟨2, true, []⟩) [.row pi ⟨26, true, [.int .i64 n, .int .i64 gN, v]⟩, .see (Rc w ws M), .sl 1 2 (.slice (some ⟨H2.next, 0, some 1⟩) 0 0) 0 []] := o6
      have hwo := (o4.rd2 1 rfl).one
      obtain ⟨hro, hwr⟩ := o6.sees 1 rfl
      obtain ⟨x, hx, hxr⟩ := hro.2 aN (by rw [hsq.1]; omega)
      have hwl : ws.length = n := by rw [hro.1]; exact hsq.1
      have hin : ∀ H' : AH, Rc w ws M H' → (∃ wi wo wu wc wr, w = .slice (some ⟨wi, wo, wu⟩) n wc ∧ H'.row wi = some wr ∧ wr.cells[wo + aN]? = some x) ∧ Rd 1 H' x n (M.getD aN []) := fun H' hc => by
        obtain ⟨x', h1, h2⟩ := hc.1.2 aN (by rw [hsq.1]; omega)
        rw [hx] at h1
        cases h1
        rw [hrl] at h2
        refine ⟨?_, h2.rd⟩
        rcases hc.2 with ⟨_, e0⟩ | ⟨wi, wo, wu, wc, wr, ew, w1, w2, w3⟩
        · rw [e0] at hwl; simp at hwl; omega
        · refine ⟨wi, wo, wu, wc, wr, by rw [ew, hwl], w1, ?_⟩
          rw [← w3] at hx
          simp only [seg, List.getElem?_take, List.getElem?_drop] at hx
          rw [if_pos (by omega)] at hx
          exact hx
      have w5 := fun r => ok_one (r := r) hxr.rd.one
      clear hxr hwr hro o5 o4 o3
      refine Holds.mp ?_
      try simp (disch := first | omega | (simp only [L3] <;> omega)) only [Sall,evalOp,init,binA_s,binE,binI,unE,convE,okNil,builtE,gv,TD.isAgg,resV,↓reduceIte,Nat.reduceEqDiff,reduceCtorEq,Nat.reduceAdd,Nat.reduceMul,Nat.reduceLeDiff,quietOp,blindOp,Int.reduceEq,Int.reduceLT,Int.reduceLE,Nat.reduceLT,tiA,tiXA, hwo]
      (repeat refine And.intro (by omega) ?_)
      refine awp_loop (fun m t H' => ∃ (b : Nat) (u : Value), m = n - b ∧ b ≤ n ∧ t 8 = .int .i64 b ∧ t 6 = w ∧ t 2 = .pointer (some ⟨pi, 0, none⟩) ∧ t 1 = .int .i64 aN ∧ t 7 = u ∧ Ow H H' [.row pi ⟨26, true, [.int .i64 n, .int .i64 gN, v]⟩, .see (Rc w ws M), .sl 1 2 u (nmL M aN b).length (ints (nmL M aN b))]) n ?_ ?_
      · refine ⟨0, .slice (some ⟨H2.next, 0, some 1⟩) 0 0, by omega, by omega, ?_⟩
        try simp (disch := first | omega | (simp only [L3] <;> omega)) only [Sall,evalOp,init,binA_s,binE,binI,unE,convE,okNil,builtE,gv,TD.isAgg,resV,↓reduceIte,Nat.reduceEqDiff,reduceCtorEq,Nat.reduceAdd,Nat.reduceMul,Nat.reduceLeDiff,quietOp,blindOp,Int.reduceEq,Int.reduceLT,Int.reduceLE,Nat.reduceLT,tiA,tiXA, Int.natCast_zero]
        exact o6
      · rintro m t H3 ⟨b, u, hm, hb, h8, h6, h2, h1, h7, o7⟩
        have e1 := (o7.rowAt 0 rfl).1
        try simp (disch := first | omega | (simp only [L3] <;> omega)) only [Sall,evalOp,init,binA_s,binE,binI,unE,convE,okNil,builtE,gv,TD.isAgg,resV,↓reduceIte,Nat.reduceEqDiff,reduceCtorEq,Nat.reduceAdd,Nat.reduceMul,Nat.reduceLeDiff,quietOp,blindOp,Int.reduceEq,Int.reduceLT,Int.reduceLE,Nat.reduceLT,tiA,tiXA, h8, h2, e1]
        refine condC_dec (fun hh => ?_) (fun hh => ?_)
        · obtain ⟨⟨wi, wo, wu, wc, wr, ew, w1, w4⟩, hr⟩ := hin H3 (o7.sees 1 rfl)
          obtain ⟨xi, xo, xu, xc, xr, ex, x1, x2, x3, _⟩ := hr.get (by omega)
          have x4 := x3 b (by omega)
          have hu := o7.one 2 rfl
          have hnl := nmL_length M aN b
          by_cases c1 : b = aN
          · have f1 : ((b : Int) != (aN : Int)) = false := by rw [c1]; exact bne_self_eq_false _
            try simp (disch := first | omega | (simp only [L3] <;> omega)) only [Sall,evalOp,init,binA_s,binE,binI,unE,convE,okNil,builtE,gv,TD.isAgg,resV,↓reduceIte,Nat.reduceEqDiff,reduceCtorEq,Nat.reduceAdd,Nat.reduceMul,Nat.reduceLeDiff,quietOp,blindOp,Int.reduceEq,Int.reduceLT,Int.reduceLE,Nat.reduceLT,tiA,tiXA, h8, h6, h2, h1, h7, f1, w64]
            refine ⟨n - (b + 1), by omega, b + 1, u, by omega, by omega, rfl, rfl, ?_⟩
            have e9 : nmL M aN (b + 1) = nmL M aN b := by rw [nmL, if_neg (fun h => h.1 c1), List.append_nil]
            rw [e9]; exact o7
          · have f1 : ((b : Int) != (aN : Int)) = true := bne_iff_ne.2 (by omega)
            by_cases c2 : (M.getD aN []).getD b 0 = 0
            · have f2 : ((M.getD aN []).getD b 0 == 0) = true := beq_iff_eq.2 c2
              have zz : zeros 1 [.int .i64 0] = [.int .i64 0] := rfl
              try simp (disch := first | omega | (simp only [L3] <;> omega)) only [Sall,evalOp,init,binA_s,binE,binI,unE,convE,okNil,builtE,gv,TD.isAgg,resV,↓reduceIte,Nat.reduceEqDiff,reduceCtorEq,Nat.reduceAdd,Nat.reduceMul,Nat.reduceLeDiff,quietOp,blindOp,Int.reduceEq,Int.reduceLT,Int.reduceLE,Nat.reduceLT,tiA,tiXA, h8, h6, h2, h1, h7, ew, w1, w4, w5, ex, x1, x4, f1, f2, zz, hu, slCells, w64]
              (repeat refine And.intro (by omega) ?_)
              try simp (disch := first | omega | (simp only [L3] <;> omega)) only [Sall,evalOp,init,binA_s,binE,binI,unE,convE,okNil,builtE,gv,TD.isAgg,resV,↓reduceIte,Nat.reduceEqDiff,reduceCtorEq,Nat.reduceAdd,Nat.reduceMul,Nat.reduceLeDiff,quietOp,blindOp,Int.reduceEq,Int.reduceLT,Int.reduceLE,Nat.reduceLT,tiA,tiXA, h8, h6, h2, h1, h7, ew, w1, w4, w5, ex, x1, x4, f1, f2, zz, hu, slCells, w64]
              refine (o7.tmp ⟨2, true, [.int .i64 b]⟩).app 2 (c := 1) (ms := ints [(b : Int)]) rfl rfl (by omega) rfl (by omega) (by decide) (by omega) ?_
              intro v' H4 n4 o8
              rw [ints_append] at o8
              try simp (disch := first | omega | (simp only [L3] <;> omega)) only [Sall,evalOp,init,binA_s,binE,binI,unE,convE,okNil,builtE,gv,TD.isAgg,resV,↓reduceIte,Nat.reduceEqDiff,reduceCtorEq,Nat.reduceAdd,Nat.reduceMul,Nat.reduceLeDiff,quietOp,blindOp,Int.reduceEq,Int.reduceLT,Int.reduceLE,Nat.reduceLT,tiA,tiXA, h8, h6, h2, h1, w64]
              refine ⟨n - (b + 1), by omega, b + 1, v', by omega, by omega, rfl, rfl, ?_⟩
              have e9 : nmL M aN (b + 1) = nmL M aN b ++ [(b : Int)] := by rw [nmL, if_pos ⟨c1, c2⟩]
              rw [e9, List.length_append]; exact o8
            · have f2 : ((M.getD aN []).getD b 0 == 0) = false := beq_eq_false_iff_ne.2 c2
              try simp (disch := first | omega | (simp only [L3] <;> omega)) only [Sall,evalOp,init,binA_s,binE,binI,unE,convE,okNil,builtE,gv,TD.isAgg,resV,↓reduceIte,Nat.reduceEqDiff,reduceCtorEq,Nat.reduceAdd,Nat.reduceMul,Nat.reduceLeDiff,quietOp,blindOp,Int.reduceEq,Int.reduceLT,Int.reduceLE,Nat.reduceLT,tiA,tiXA, h8, h6, h2, h1, h7, ew, w1, w4, w5, ex, x1, x4, f1, f2, w64]
              rw [ew] at o7
              refine ⟨⟨by omega, by omega⟩, ⟨by omega, by omega⟩, n - (b + 1), by omega, b + 1, u, by omega, by omega, rfl, rfl, ?_⟩
              have e9 : nmL M aN (b + 1) = nmL M aN b := by rw [nmL, if_neg (fun h => c2 h.2), List.append_nil]
              rw [e9]; exact o7
        · have hbe : b = n := by omega
          rw [hbe] at o7
          have hu := o7.one 2 rfl
          try simp (disch := first | omega | (simp only [L3] <;> omega)) only [Sall,evalOp,init,binA_s,binE,binI,unE,convE,okNil,builtE,gv,TD.isAgg,resV,↓reduceIte,Nat.reduceEqDiff,reduceCtorEq,Nat.reduceAdd,Nat.reduceMul,Nat.reduceLeDiff,quietOp,blindOp,Int.reduceEq,Int.reduceLT,Int.reduceLE,Nat.reduceLT,tiA,tiXA, h7, hu]
          exact ⟨u, rfl, o7.only 2 rfl⟩
    · have eV : nmV q g R a = [] := by
        unfold nmV
        rw [if_neg (fun h => hD h.2)]
      have eC : glC q g R (decide (0 ≤ a ∧ a ≤ q - 1)) = 2 := by unfold glC; rw [hE, if_pos rfl, decide_eq_false hD, if_neg (by simp)]
      rw [decide_eq_false hD] at eC ⊢
      rw [eC, eV]
      try simp (disch := first | omega | (simp only [L3] <;> omega)) only [Sall,evalOp,init,binA_s,binE,binI,unE,convE,okNil,builtE,gv,TD.isAgg,resV,↓reduceIte,Nat.reduceEqDiff,reduceCtorEq,Nat.reduceAdd,Nat.reduceMul,Nat.reduceLeDiff,quietOp,blindOp,Int.reduceEq,Int.reduceLT,Int.reduceLE,Nat.reduceLT,tiA,tiXA, Bool.not_false]
      exact ⟨_, rfl, Ow.left (L := []) o1 |>.addNil 1 _⟩
end Go.Proofs.Ytpienljnoaendaa.A
end

section
set_option maxRecDepth 100000
set_option maxHeartbeats 2000000
namespace Go.Proofs.Ytpienljnoaendaa.A
open Go Go.Abs Go.RowKit
theorem l02Sorted_c (v : Value) (y : List Int) (H : AH) (hv : Cp H v y) (hy : y.length ≤ 4194304) :
    ACalls Try.prog 47 [v] H (fun u H' => Ow H H' [.sl 1 2 u y.length (ints (sortedL y))]) := by
  refine ACalls.wf (by kernel_rfl) fun hs => acalls_of_awp [.tmp 2] Try.func47 (by kernel_rfl) rfl rfl (Nat.le_of_ble_eq_true rfl) (by kernel_rfl) ?_
  try simp (disch := first | omega | (simp only [L3] <;> omega)) only [Sall,evalOp,init,binA_s,binE,binI,unE,convE,okNil,builtE,gv,TD.isAgg,resV,↓reduceIte,Nat.reduceEqDiff,reduceCtorEq,Nat.reduceAdd,Nat.reduceMul,Nat.reduceLeDiff,quietOp,blindOp,Int.reduceEq,Int.reduceLT,Int.reduceLE,Nat.reduceLT,tiA,tiXA, true_and]
  refine ACalls.mono (l01Own_c v y H hv hy).sc ?_
  rintro u H1 ⟨⟨up1, f1⟩, sc1⟩
  have o1 := Ow.of_fr up1 sc1 f1
  have hu := o1.one 0 rfl
  refine Holds.mp ?_
  try simp (disch := first | omega | (simp only [L3] <;> omega)) only [Sall,evalOp,init,binA_s,binE,binI,unE,convE,okNil,builtE,gv,TD.isAgg,resV,↓reduceIte,Nat.reduceEqDiff,reduceCtorEq,Nat.reduceAdd,Nat.reduceMul,Nat.reduceLeDiff,quietOp,blindOp,Int.reduceEq,Int.reduceLT,Int.reduceLE,Nat.reduceLT,tiA,tiXA, hu]
  refine awp_loop (fun m t H' => ∃ (i : Nat) (z : List Int), m = y.length + 1 - i ∧ 1 ≤ i ∧ i ≤ y.length + 1 ∧ t 4 = .int .i64 i ∧ t 3 = u ∧ z.Perm y ∧ (z.take i).Pairwise (fun a b => a ≤ b) ∧ Ow H H' [.sl 1 2 u y.length (ints z)]) y.length ?_ ?_
  · refine ⟨1, y, by omega, by omega, by omega, ?_⟩
    try simp (disch := first | omega | (simp only [L3] <;> omega)) only [Sall,evalOp,init,binA_s,binE,binI,unE,convE,okNil,builtE,gv,TD.isAgg,resV,↓reduceIte,Nat.reduceEqDiff,reduceCtorEq,Nat.reduceAdd,Nat.reduceMul,Nat.reduceLeDiff,quietOp,blindOp,Int.reduceEq,Int.reduceLT,Int.reduceLE,Nat.reduceLT,tiA,tiXA, true_and]
    refine ⟨rfl, List.Perm.refl _, ?_, o1⟩
    cases y with
    | nil => simp
    | cons a y => simp
  · rintro m t H2 ⟨i, z, hm, h1i, hi, h4, h3, hp, hst, o2⟩
    have hzl := hp.length_eq
    have hul := (o2.rd 0 rfl).len
    have hu := o2.one 0 rfl
    try simp (disch := first | omega | (simp only [L3] <;> omega)) only [Sall,evalOp,init,binA_s,binE,binI,unE,convE,okNil,builtE,gv,TD.isAgg,resV,↓reduceIte,Nat.reduceEqDiff,reduceCtorEq,Nat.reduceAdd,Nat.reduceMul,Nat.reduceLeDiff,quietOp,blindOp,Int.reduceEq,Int.reduceLT,Int.reduceLE,Nat.reduceLT,tiA,tiXA, h4, h3, builtE, hul]
    refine condC_dec (fun hh => ?_) (fun hh => ?_)
    · have hil : i < y.length := by omega
      have I0 := Ins.start (key := fun x : Int => x) hst (show i < z.length by omega)
      try simp (disch := first | omega | (simp only [L3] <;> omega)) only [Sall,evalOp,init,binA_s,binE,binI,unE,convE,okNil,builtE,gv,TD.isAgg,resV,↓reduceIte,Nat.reduceEqDiff,reduceCtorEq,Nat.reduceAdd,Nat.reduceMul,Nat.reduceLeDiff,quietOp,blindOp,Int.reduceEq,Int.reduceLT,Int.reduceLE,Nat.reduceLT,tiA,tiXA, h4, h3]
      refine awp_loop (fun m' t H' => ∃ (A : List Int) (x : Int) (B C : List Int) (z : List Int), m' = A.length ∧ A.length ≤ i ∧ t 5 = .int .i64 A.length ∧ t 4 = .int .i64 i ∧ t 3 = u ∧ z.Perm y ∧ Ins (fun x : Int => x) z i A x B C ∧ Ow H H' [.sl 1 2 u y.length (ints z)]) i ?_ ?_
      · have hl0 : (z.take i).length = i := by rw [List.length_take]; omega
        refine ⟨z.take i, z[i], [], z.drop (i + 1), z, by omega, by omega, ?_⟩
        try simp (disch := first | omega | (simp only [L3] <;> omega)) only [Sall,evalOp,init,binA_s,binE,binI,unE,convE,okNil,builtE,gv,TD.isAgg,resV,↓reduceIte,Nat.reduceEqDiff,reduceCtorEq,Nat.reduceAdd,Nat.reduceMul,Nat.reduceLeDiff,quietOp,blindOp,Int.reduceEq,Int.reduceLT,Int.reduceLE,Nat.reduceLT,tiA,tiXA, h4, h3, hl0]
        exact ⟨hp, I0, o2⟩
      · rintro m' t H3 ⟨A, x, B, C, z, hm', hA, h5, h4, h3, hp, I, o3⟩
        have hzl := hp.length_eq
        have hall := I.len_all
        refine draw_id (by kernel_rfl) (by kernel_rfl) ?_
        by_cases c0 : A.length = 0
        · have e0 : A = [] := List.eq_nil_of_length_eq_zero c0
          subst e0
          have h00 : ¬ (0 : Int) < ((0 : Nat) : Int) := by omega
          have h5 : t 5 = .int .i64 ((0 : Nat) : Int) := h5
          try simp (disch := first | omega | (simp only [L3] <;> omega)) only [Sall,evalOp,init,binA_s,binE,binI,unE,convE,okNil,builtE,gv,TD.isAgg,resV,↓reduceIte,Nat.reduceEqDiff,reduceCtorEq,Nat.reduceAdd,Nat.reduceMul,Nat.reduceLeDiff,quietOp,blindOp,Int.reduceEq,Int.reduceLT,Int.reduceLE,Nat.reduceLT,tiA,tiXA, h5, h4, h3, h00, decide_false, w64]
          refine ⟨y.length + 1 - (i + 1), by omega, i + 1, z, rfl, by omega, by omega, rfl, hp, I.exit0, o3⟩
        · obtain ⟨A', zz, rfl⟩ := cons_end (show 0 < A.length by omega)
          have hl1 : (A' ++ [zz]).length = A'.length + 1 := by simp
          rw [hl1] at h5
          obtain ⟨ui, _, _, eu, rw3⟩ := o3.get 0 rfl (by omega)
          have k1 := I.at
          have k2 := I.at1
          rw [hl1] at k1
          have k1' : (ints z)[A'.length + 1]? = some (.int .i64 x) := by unfold ints; rw [List.getElem?_map, k1]; rfl
          have k2' : (ints z)[A'.length]? = some (.int .i64 zz) := by unfold ints; rw [List.getElem?_map, k2]; rfl
          have pg : (0 : Int) < ((A'.length + 1 : Nat) : Int) := by omega
          have pm : ((A'.length + 1 : Nat) : Int) - 1 = (A'.length : Int) := by omega
          by_cases cmp : x < zz
          · try simp (disch := first | omega | (simp only [L3] <;> omega)) only [Sall,evalOp,init,binA_s,binE,binI,unE,convE,okNil,builtE,gv,TD.isAgg,resV,↓reduceIte,Nat.reduceEqDiff,reduceCtorEq,Nat.reduceAdd,Nat.reduceMul,Nat.reduceLeDiff,quietOp,blindOp,Int.reduceEq,Int.reduceLT,Int.reduceLE,Nat.reduceLT,tiA,tiXA, h5, h4, h3, pg, pm, decide_true, eu, rw3, k1', k2', cmp, w64]
            have es : ((ints z).set (A'.length + 1) (Value.int IntKind.i64 zz)).set A'.length (Value.int IntKind.i64 x) = ints (A' ++ x :: (zz :: B ++ C)) := by rw [ints_set, ints_set, I.swap]
            obtain ⟨I2, hp2⟩ := I.step (show x ≤ zz by omega)
            have o4 := o3.setTwice ui eu (vs' := ints (A' ++ x :: (zz :: B ++ C))) ((ints z).set (A'.length + 1) (Value.int IntKind.i64 zz)) (by rw [ints_length, ints_length, hp2.length_eq]) (by rw [List.length_set])
            rw [es]
            refine ⟨⟨by omega, by omega⟩, ⟨by omega, by omega⟩, ⟨by omega, by omega⟩, ⟨by omega, by omega⟩, ⟨by omega, by omega⟩, by omega, ⟨by omega, by omega⟩, by rw [List.length_set, ints_length]; omega, A'.length, by omega, A', x, zz :: B, C, _, rfl, by omega, rfl, hp2.trans hp, I2, ?_⟩
            rw [← eu]
            exact o4
          · try simp (disch := first | omega | (simp only [L3] <;> omega)) only [Sall,evalOp,init,binA_s,binE,binI,unE,convE,okNil,builtE,gv,TD.isAgg,resV,↓reduceIte,Nat.reduceEqDiff,reduceCtorEq,Nat.reduceAdd,Nat.reduceMul,Nat.reduceLeDiff,quietOp,blindOp,Int.reduceEq,Int.reduceLT,Int.reduceLE,Nat.reduceLT,tiA,tiXA, h5, h4, h3, pg, pm, decide_true, decide_false, eu, rw3, k1', k2', cmp, w64]
            rw [eu] at o3
            exact ⟨⟨by omega, by omega⟩, ⟨by omega, by omega⟩, y.length + 1 - (i + 1), by omega, i + 1, z, rfl, by omega, by omega, rfl, hp, I.exit1 (show zz ≤ x by omega), o3⟩
    · have hin : i = y.length ∨ i = y.length + 1 := by omega
      have hall : z.take i = z := List.take_of_length_le (by omega)
      rw [hall] at hst
      have es : sortedL y = z := sortedL_eq hp.symm hst
      try simp (disch := first | omega | (simp only [L3] <;> omega)) only [Sall,evalOp,init,binA_s,binE,binI,unE,convE,okNil,builtE,gv,TD.isAgg,resV,↓reduceIte,Nat.reduceEqDiff,reduceCtorEq,Nat.reduceAdd,Nat.reduceMul,Nat.reduceLeDiff,quietOp,blindOp,Int.reduceEq,Int.reduceLT,Int.reduceLE,Nat.reduceLT,tiA,tiXA, h3, hu]
      rw [es]
      exact o2
theorem l08Group_c (n g c : Nat) (hg : 2 ≤ g) (hn : n = g * c) (hn25 : n ≤ 25) (hgn : g ≤ n) (v y : Value) (l : List Int) (a : Int) (H : AH) (hone : v.oneCell' = true) (hy : Rs 1 H y n l) (ho : ordB n l = true) (ha : 0 ≤ a ∧ a < n) :
    ACalls Try.prog 30 [.agg #[.int .i64 n, .int .i64 g, v], y, .int .i64 a] H (fun u H' => Ow H H' [.sl 1 2 u (grpL g l a).length (ints (grpL g l a))]) := by
  refine ACalls.wf (by kernel_rfl) fun hs => acalls_of_awp [.tmp 6] Try.func30 (by kernel_rfl) rfl rfl (Nat.le_of_ble_eq_true rfl) (by kernel_rfl) ?_
  have o1 := golf_push hs n g v
  have hyo := hy.rd.one
  obtain ⟨k, hkn, ek⟩ := ord_has ho ha
  have hlk : l.length = n := ((ordB_iff n l).1 ho).1
  try simp (disch := first | omega | (simp only [L3] <;> omega)) only [Sall,evalOp,init,binA_s,binE,binI,unE,convE,okNil,builtE,gv,TD.isAgg,resV,↓reduceIte,Nat.reduceEqDiff,reduceCtorEq,Nat.reduceAdd,Nat.reduceMul,Nat.reduceLeDiff,quietOp,blindOp,Int.reduceEq,Int.reduceLT,Int.reduceLE,Nat.reduceLT,tiA,tiXA, hone, hyo]
  obtain ⟨pi, epi⟩ : ∃ pi, pi = H.next := ⟨_, rfl⟩
  rw [← epi] at o1 ⊢
  generalize H.push ⟨26, true, [.int .i64 n, .int .i64 g, v]⟩ = H1 at o1 ⊢
  have e1 := (o1.rowAt 0 rfl).1
  refine awp_loop (fun m t H' => ∃ i : Nat, m = n - i ∧ i ≤ k ∧ t 7 = .int .i64 i ∧ t 1 = y ∧ t 2 = .int .i64 a ∧ t 3 = .pointer (some ⟨pi, 0, none⟩) ∧ H' = H1 ∧ ∀ j, j < i → l.getD j 0 ≠ a) n ?_ ?_
  · refine ⟨0, by omega, by omega, ?_⟩
    try simp (disch := first | omega | (simp only [L3] <;> omega)) only [Sall,evalOp,init,binA_s,binE,binI,unE,convE,okNil,builtE,gv,TD.isAgg,resV,↓reduceIte,Nat.reduceEqDiff,reduceCtorEq,Nat.reduceAdd,Nat.reduceMul,Nat.reduceLeDiff,quietOp,blindOp,Int.reduceEq,Int.reduceLT,Int.reduceLE,Nat.reduceLT,tiA,tiXA, Int.natCast_zero, Nat.not_lt_zero, false_implies]
  · rintro m t H2 ⟨i, hm, hi, h7, h1, h2, h3, rfl, hno⟩
    obtain ⟨yi, yo, yu, yc, yr, ey, w1, w2, w3, _⟩ := (hy.rd.same (o1.old hs)).get (by omega)
    have w4 := w3 i (by omega)
    by_cases e : l.getD i 0 = a
    · have f : (l.getD i 0 != a) = false := by rw [e]; exact bne_self_eq_false _
      have eix : grpL g l a = blkL g l (i / g) := by rw [← e]; exact grpL_at ho (by omega)
      have di : Int.tdiv (i : Int) (g : Int) = ((i / g : Nat) : Int) := rfl
      have hg0 : ¬ (g : Int) = 0 := by omega
      have em : ((i / g : Nat) : Int) * (g : Int) = ((i / g * g : Nat) : Int) := (Int.natCast_mul _ _).symm
      have lA := Nat.div_mul_le_self i g
      have ld := Nat.div_le_self i g
      have hA : i / g * g + g ≤ n := by
        have h1 : i / g < c := by rw [Nat.div_lt_iff_lt_mul (by omega), Nat.mul_comm, ← hn]; omega
        have h2 : (i / g + 1) * g ≤ c * g := Nat.mul_le_mul_right g h1
        rw [Nat.succ_mul, Nat.mul_comm c g, ← hn] at h2
        exact h2
      have wd : ∀ A : Nat, A ≤ 100 → IntKind.i64.wrap (A : Int) = A := fun A hA => w64 ⟨by omega, by omega⟩
      have wd1 := wd (i / g) (by omega)
      have wd2 := wd (i / g * g) (by omega)
      have wd3 := wd (i / g * g + g) (by omega)
      have ea : ((i / g * g : Nat) : Int) + (g : Int) = ((i / g * g + g : Nat) : Int) := by omega
      try simp (disch := first | omega | (simp only [L3] <;> omega)) only [Sall,evalOp,init,binA_s,binE,binI,unE,convE,okNil,builtE,gv,TD.isAgg,resV,↓reduceIte,Nat.reduceEqDiff,reduceCtorEq,Nat.reduceAdd,Nat.reduceMul,Nat.reduceLeDiff,quietOp,blindOp,Int.reduceEq,Int.reduceLT,Int.reduceLE,Nat.reduceLT,tiA,tiXA, h7, h1, h2, h3, ey, w1, w4, f]
      (repeat refine And.intro (by omega) ?_)
      try simp (disch := first | omega | (simp only [L3] <;> omega)) only [Sall,evalOp,init,binA_s,binE,binI,unE,convE,okNil,builtE,gv,TD.isAgg,resV,↓reduceIte,Nat.reduceEqDiff,reduceCtorEq,Nat.reduceAdd,Nat.reduceMul,Nat.reduceLeDiff,quietOp,blindOp,Int.reduceEq,Int.reduceLT,Int.reduceLE,Nat.reduceLT,tiA,tiXA, h7, h1, h2, h3, ey, w1, w4, f]
      refine draw_id (by kernel_rfl) (by kernel_rfl) ?_
      try simp (disch := first | omega | (simp only [L3] <;> omega)) only [Sall,evalOp,init,binA_s,binE,binI,unE,convE,okNil,builtE,gv,TD.isAgg,resV,↓reduceIte,Nat.reduceEqDiff,reduceCtorEq,Nat.reduceAdd,Nat.reduceMul,Nat.reduceLeDiff,quietOp,blindOp,Int.reduceEq,Int.reduceLT,Int.reduceLE,Nat.reduceLT,tiA,tiXA, h7, h3, e1, di, hg0, wd1, em, wd2]
      (repeat refine And.intro (by omega) ?_)
      try simp (disch := first | omega | (simp only [L3] <;> omega)) only [Sall,evalOp,init,binA_s,binE,binI,unE,convE,okNil,builtE,gv,TD.isAgg,resV,↓reduceIte,Nat.reduceEqDiff,reduceCtorEq,Nat.reduceAdd,Nat.reduceMul,Nat.reduceLeDiff,quietOp,blindOp,Int.reduceEq,Int.reduceLT,Int.reduceLE,Nat.reduceLT,tiA,tiXA, h7, h3, e1, di, hg0, wd1, em, wd2]
      obtain ⟨ys, hcut, rys⟩ := hy.cut (lo := some ((i / g * g : Nat) : Int)) (hi := some ((i / g * g + g : Nat) : Int)) (a := i / g * g) (b := i / g * g + g) rfl rfl (by omega) hA
      rw [Nat.mul_one, Nat.mul_one, Nat.add_sub_cancel_left] at rys
      try simp (disch := first | omega | (simp only [L3] <;> omega)) only [Sall,evalOp,init,binA_s,binE,binI,unE,convE,okNil,builtE,gv,TD.isAgg,resV,↓reduceIte,Nat.reduceEqDiff,reduceCtorEq,Nat.reduceAdd,Nat.reduceMul,Nat.reduceLeDiff,quietOp,blindOp,Int.reduceEq,Int.reduceLT,Int.reduceLE,Nat.reduceLT,tiA,tiXA, h1, h3, e1, ea, wd3]
      refine hcut _ _ _ _ rfl ?_
      have hyso := rys.rd.one
      have hkl : ((l.drop (i / g * g)).take g).length = g := by have := rys.rd.1; omega
      have hcp : Cp H2 ys ((l.drop (i / g * g)).take g) := by
        have h2 := rys.rd.same (o1.old hs)
        refine ⟨?_, fun h0 => by omega⟩
        rw [hkl]; exact h2
      try simp (disch := first | omega | (simp only [L3] <;> omega)) only [Sall,evalOp,init,binA_s,binE,binI,unE,convE,okNil,builtE,gv,TD.isAgg,resV,↓reduceIte,Nat.reduceEqDiff,reduceCtorEq,Nat.reduceAdd,Nat.reduceMul,Nat.reduceLeDiff,quietOp,blindOp,Int.reduceEq,Int.reduceLT,Int.reduceLE,Nat.reduceLT,tiA,tiXA, hyso]
      refine ACalls.mono (l02Sorted_c ys _ H2 hcp (by omega)) ?_
      intro u H3 o3
      have hu := o3.one 0 rfl
      refine Holds.mp ?_
      try simp (disch := first | omega | (simp only [L3] <;> omega)) only [Sall,evalOp,init,binA_s,binE,binI,unE,convE,okNil,builtE,gv,TD.isAgg,resV,↓reduceIte,Nat.reduceEqDiff,reduceCtorEq,Nat.reduceAdd,Nat.reduceMul,Nat.reduceLeDiff,quietOp,blindOp,Int.reduceEq,Int.reduceLT,Int.reduceLE,Nat.reduceLT,tiA,tiXA, hu]
      have o4 := (o1.call o3).only 1 rfl
      have e6 : blkL g l (i / g) = sortedL ((l.drop (i / g * g)).take g) := rfl
      rw [eix, e6, sortedL_length]
      exact o4
    · have f : (l.getD i 0 != a) = true := bne_iff_ne.2 e
      have hik : i ≠ k := fun e2 => e (by rw [e2]; exact ek)
      try simp (disch := first | omega | (simp only [L3] <;> omega)) only [Sall,evalOp,init,binA_s,binE,binI,unE,convE,okNil,builtE,gv,TD.isAgg,resV,↓reduceIte,Nat.reduceEqDiff,reduceCtorEq,Nat.reduceAdd,Nat.reduceMul,Nat.reduceLeDiff,quietOp,blindOp,Int.reduceEq,Int.reduceLT,Int.reduceLE,Nat.reduceLT,tiA,tiXA, h7, h1, h2, h3, ey, w1, w4, f, w64]
      (repeat refine And.intro (by omega) ?_)
      try simp (disch := first | omega | (simp only [L3] <;> omega)) only [Sall,evalOp,init,binA_s,binE,binI,unE,convE,okNil,builtE,gv,TD.isAgg,resV,↓reduceIte,Nat.reduceEqDiff,reduceCtorEq,Nat.reduceAdd,Nat.reduceMul,Nat.reduceLeDiff,quietOp,blindOp,Int.reduceEq,Int.reduceLT,Int.reduceLE,Nat.reduceLT,tiA,tiXA, h7, h1, h2, h3, ey, w1, w4, f, w64]
      refine ⟨n - (i + 1), by omega, i + 1, by omega, by omega, rfl, fun j hj => ?_⟩
      by_cases e2 : j = i
      · rw [e2]; exact e
      · exact hno j (by omega)
end Go.Proofs.Ytpienljnoaendaa.A
end

section
set_option maxRecDepth 100000
set_option maxHeartbeats 2000000
namespace Go.Proofs.Ytpienljnoaendaa.A
open Go Go.Abs Go.RowKit
theorem specGroupOf_c (q g : Int) (v : Value) (R : List (List Int)) (i a : Int) (H : AH) (hv : Rg H v R) (hl : R.length ≤ 4194304) (hl2 : ∀ r ∈ R, r.length ≤ 4194304) :
    ACalls Try.prog 7 [.agg #[.int .i64 q, .int .i64 g, v], .int .i64 i, .int .i64 a] H (fun r H' => ∃ w, r = .tuple #[w, .int .i64 (glC q g R (decide (0 ≤ i ∧ i ≤ (R.length : Int) - 1) && decide (0 ≤ a ∧ a ≤ q - 1)))] ∧ Ow H H' [.sl 1 2 w (goV q g R i a).length (ints (goV q g R i a))]) := by
  refine ACalls.wf (by kernel_rfl) fun hs => acalls_of_awp [.tmp 6, .tmp 7] Try.func7 (by kernel_rfl) rfl rfl (Nat.le_of_ble_eq_true rfl) (by kernel_rfl) ?_
  have hone := hv.one
  have o1 := golf_push hs q g v
  have o2 := o1.pushSl (k := 1) (n := 1) (ty := 2) (vs := ints [a]) rfl
  have zz : zeros 1 [.int .i64 0] = [.int .i64 0] := rfl
  have r2 := o2.rd 1 rfl
  have eP : ((List.range [a].length).all fun k => decide (0 ≤ [a].getD k 0 ∧ [a].getD k 0 ≤ q - 1)) = decide (0 ≤ a ∧ a ≤ q - 1) := by
    show (decide (0 ≤ a ∧ a ≤ q - 1) && true) = _
    rw [Bool.and_true]
  try simp (disch := first | omega | (simp only [L3] <;> omega)) only [Sall,evalOp,init,binA_s,binE,binI,unE,convE,okNil,builtE,gv,TD.isAgg,resV,↓reduceIte,Nat.reduceEqDiff,reduceCtorEq,Nat.reduceAdd,Nat.reduceMul,Nat.reduceLeDiff,quietOp,blindOp,Int.reduceEq,Int.reduceLT,Int.reduceLE,Nat.reduceLT,tiA,tiXA, hone, zz]
  (repeat refine And.intro (by omega) ?_)
  try simp (disch := first | omega | (simp only [L3] <;> omega)) only [Sall,evalOp,init,binA_s,binE,binI,unE,convE,okNil,builtE,gv,TD.isAgg,resV,↓reduceIte,Nat.reduceEqDiff,reduceCtorEq,Nat.reduceAdd,Nat.reduceMul,Nat.reduceLeDiff,quietOp,blindOp,Int.reduceEq,Int.reduceLT,Int.reduceLE,Nat.reduceLT,tiA,tiXA, hone, zz]
  refine (l08Code_c q g v R i (.slice (some ⟨H.next + 1, 0, some 1⟩) 1 1) [a] _ (hv.rd2.same (o2.old hs)) hl hl2 r2 (by simp)).to ?_
  rw [eP]
  refine Holds.mp ?_
  have e1 := (o2.rowAt 0 rfl).1
  obtain ⟨pi, epi⟩ : ∃ pi, pi = H.next := ⟨_, rfl⟩
  have o2 := o2.left (L := [.row H.next ⟨26, true, [.int .i64 q, .int .i64 g, v]⟩])
  have hix : (0 : Nat) = 0 := rfl
  generalize hH2 : (H.push ⟨26, true, [.int .i64 q, .int .i64 g, v]⟩).push ⟨2, true, ints [a]⟩ = H2 at *
  by_cases hz : glC q g R (decide (0 ≤ i ∧ i ≤ (R.length : Int) - 1) && decide (0 ≤ a ∧ a ≤ q - 1)) = 0
  · obtain ⟨hE, hD⟩ := glC_yes hz
    rw [Bool.and_eq_true, decide_eq_true_iff, decide_eq_true_iff] at hD
    have e3 : ((0 : Int) != 0) = false := rfl
    have eV : goV q g R i a = grpL g.toNat (R.getD i.toNat []) a := by unfold goV; rw [if_pos ⟨hE, hD⟩]
    rw [hz, eV]
    obtain ⟨n, gN, c, rfl, rfl, q0, q1, q2, q3, q4, q5, q6, q7⟩ := golfB_at hE
    obtain ⟨iN, rfl⟩ : ∃ iN : Nat, i = iN := ⟨i.toNat, by omega⟩
    simp only [Int.toNat_natCast]
    obtain ⟨vi, vo, vu, vc, vr, y, ev, v1, v2, v3, v4⟩ := (hv.same (o2.old hs)).get (j := iN) (by omega)
    have hol := ((ordB_iff n _).1 (q7 iN (by omega))).1
    rw [hol] at v3
    try simp (disch := first | omega | (simp only [L3] <;> omega)) only [Sall,evalOp,init,binA_s,binE,binI,unE,convE,okNil,builtE,gv,TD.isAgg,resV,↓reduceIte,Nat.reduceEqDiff,reduceCtorEq,Nat.reduceAdd,Nat.reduceMul,Nat.reduceLeDiff,quietOp,blindOp,Int.reduceEq,Int.reduceLT,Int.reduceLE,Nat.reduceLT,tiA,tiXA, e3]
    refine draw_id (by kernel_rfl) (by kernel_rfl) ?_
    try simp (disch := first | omega | (simp only [L3] <;> omega)) only [Sall,evalOp,init,binA_s,binE,binI,unE,convE,okNil,builtE,gv,TD.isAgg,resV,↓reduceIte,Nat.reduceEqDiff,reduceCtorEq,Nat.reduceAdd,Nat.reduceMul,Nat.reduceLeDiff,quietOp,blindOp,Int.reduceEq,Int.reduceLT,Int.reduceLE,Nat.reduceLT,tiA,tiXA, e1, hone, ev, v1, v2, v4]
    (repeat refine And.intro (by omega) ?_)
    try simp (disch := first | omega | (simp only [L3] <;> omega)) only [Sall,evalOp,init,binA_s,binE,binI,unE,convE,okNil,builtE,gv,TD.isAgg,resV,↓reduceIte,Nat.reduceEqDiff,reduceCtorEq,Nat.reduceAdd,Nat.reduceMul,Nat.reduceLeDiff,quietOp,blindOp,Int.reduceEq,Int.reduceLT,Int.reduceLE,Nat.reduceLT,tiA,tiXA, e1, hone, ev, v1, v2, v4]
    rw [← ev]
    refine ACalls.mono (l08Group_c n gN c q1 q0 q4 q5 v y _ a H2 hone v3 (q7 iN (by omega)) (by omega)) ?_
    intro u H3 o3
    have hu := o3.one 0 rfl
    refine ⟨.inr (.inr (o3.up.le o2.sc)), ?_⟩
    · try simp (disch := first | omega | (simp only [L3] <;> omega)) only [Sall,evalOp,init,binA_s,binE,binI,unE,convE,okNil,builtE,gv,TD.isAgg,resV,↓reduceIte,Nat.reduceEqDiff,reduceCtorEq,Nat.reduceAdd,Nat.reduceMul,Nat.reduceLeDiff,quietOp,blindOp,Int.reduceEq,Int.reduceLT,Int.reduceLE,Nat.reduceLT,tiA,tiXA, hu]
      exact ⟨u, rfl, (o2.call o3).only 1 rfl⟩
  · have e3 : (glC q g R (decide (0 ≤ i ∧ i ≤ (R.length : Int) - 1) && decide (0 ≤ a ∧ a ≤ q - 1)) != 0) = true := bne_iff_ne.2 hz
    have eV : goV q g R i a = [] := by
      unfold goV
      rw [if_neg]
      rintro ⟨h1, h2, h3⟩
      apply hz
      unfold glC
      rw [if_pos h1, decide_eq_true h2, decide_eq_true h3]; rfl
    rw [eV]
    try simp (disch := first | omega | (simp only [L3] <;> omega)) only [Sall,evalOp,init,binA_s,binE,binI,unE,convE,okNil,builtE,gv,TD.isAgg,resV,↓reduceIte,Nat.reduceEqDiff,reduceCtorEq,Nat.reduceAdd,Nat.reduceMul,Nat.reduceLeDiff,quietOp,blindOp,Int.reduceEq,Int.reduceLT,Int.reduceLE,Nat.reduceLT,tiA,tiXA, e3]
    exact ⟨_, rfl, Ow.left (L := []) o2 |>.addNil 1 _⟩
theorem GroupOf_c (q g : Int) (v : Value) (R : List (List Int)) (i a : Int) (H : AH) (hq : -1000 ≤ q ∧ q ≤ 1000) (hv : Rg H v R) (hl : R.length ≤ 4194304) (hl2 : ∀ r ∈ R, r.length ≤ 4194304) :
    ACalls Try.prog 6 [.agg #[.int .i64 q, .int .i64 g, v], .int .i64 i, .int .i64 a] H (fun r H' => ∃ w, r = .tuple #[w, .int .i64 (glC q g R (decide (0 ≤ i ∧ i ≤ (R.length : Int) - 1) && decide (0 ≤ a ∧ a ≤ q - 1)))] ∧ Ow H H' [.sl 1 2 w (goV q g R i a).length (ints (goV q g R i a))]) := by
  refine ACalls.wf (by kernel_rfl) fun hs => acalls_of_awp [.tmp 6, .tmp 7] Try.func6 (by kernel_rfl) rfl rfl (Nat.le_of_ble_eq_true rfl) (by kernel_rfl) ?_
  have hone := hv.one
  have o1 := golf_push hs q g v
  try simp (disch := first | omega | (simp only [L3] <;> omega)) only [Sall,evalOp,init,binA_s,binE,binI,unE,convE,okNil,builtE,gv,TD.isAgg,resV,↓reduceIte,Nat.reduceEqDiff,reduceCtorEq,Nat.reduceAdd,Nat.reduceMul,Nat.reduceLeDiff,quietOp,blindOp,Int.reduceEq,Int.reduceLT,Int.reduceLE,Nat.reduceLT,tiA,tiXA, hone]
  obtain ⟨pi, epi⟩ : ∃ pi, pi = H.next := ⟨_, rfl⟩
  rw [← epi] at o1 ⊢
  generalize H.push ⟨26, true, [.int .i64 q, .int .i64 g, v]⟩ = H1 at o1 ⊢
  have e1 := (o1.rowAt 0 rfl).1
  have hv1 := hv.same (o1.old hs)
  refine awp_cutQ (fun t H' => t 8 = .int .i64 (glC q g R (decide (0 ≤ i ∧ i ≤ (R.length : Int) - 1) && decide (0 ≤ a ∧ a ≤ q - 1))) ∧ t 1 = .int .i64 i ∧ t 2 = .int .i64 a ∧ t 3 = .pointer (some ⟨pi, 0, none⟩) ∧ H' = H1) ?_ ?_
  · refine draw_id (by kernel_rfl) (by kernel_rfl) ?_
    try simp (disch := first | omega | (simp only [L3] <;> omega)) only [Sall,evalOp,init,binA_s,binE,binI,unE,convE,okNil,builtE,gv,TD.isAgg,resV,↓reduceIte,Nat.reduceEqDiff,reduceCtorEq,Nat.reduceAdd,Nat.reduceMul,Nat.reduceLeDiff,quietOp,blindOp,Int.reduceEq,Int.reduceLT,Int.reduceLE,Nat.reduceLT,tiA,tiXA, e1, hone]
    refine (hasRound_c q g v R i H1 hv1.rd2 hl).to ?_
    refine ⟨.inr (.inr (LE.refl _)), ?_⟩
    by_cases hi : 0 ≤ i ∧ i ≤ (R.length : Int) - 1
    · rw [decide_eq_true hi]
      try simp (disch := first | omega | (simp only [L3] <;> omega)) only [Sall,evalOp,init,binA_s,binE,binI,unE,convE,okNil,builtE,gv,TD.isAgg,resV,↓reduceIte,Nat.reduceEqDiff,reduceCtorEq,Nat.reduceAdd,Nat.reduceMul,Nat.reduceLeDiff,quietOp,blindOp,Int.reduceEq,Int.reduceLT,Int.reduceLE,Nat.reduceLT,tiA,tiXA, e1, hone]
      refine (hasPlayer_c q g v a H1 hone (by omega)).to ?_
      refine ⟨.inr (.inr (LE.refl _)), ?_⟩
      try simp (disch := first | omega | (simp only [L3] <;> omega)) only [Sall,evalOp,init,binA_s,binE,binI,unE,convE,okNil,builtE,gv,TD.isAgg,resV,↓reduceIte,Nat.reduceEqDiff,reduceCtorEq,Nat.reduceAdd,Nat.reduceMul,Nat.reduceLeDiff,quietOp,blindOp,Int.reduceEq,Int.reduceLT,Int.reduceLE,Nat.reduceLT,tiA,tiXA, e1, hone]
      refine (golfCode_c q g v R _ H1 hv1.rd2 hl hl2).to ?_
      refine ⟨.inr (.inr (LE.refl _)), ?_⟩
      try simp (disch := first | omega | (simp only [L3] <;> omega)) only [Sall,evalOp,init,binA_s,binE,binI,unE,convE,okNil,builtE,gv,TD.isAgg,resV,↓reduceIte,Nat.reduceEqDiff,reduceCtorEq,Nat.reduceAdd,Nat.reduceMul,Nat.reduceLeDiff,quietOp,blindOp,Int.reduceEq,Int.reduceLT,Int.reduceLE,Nat.reduceLT,tiA,tiXA, Bool.true_and]
    · rw [decide_eq_false hi]
      try simp (disch := first | omega | (simp only [L3] <;> omega)) only [Sall,evalOp,init,binA_s,binE,binI,unE,convE,okNil,builtE,gv,TD.isAgg,resV,↓reduceIte,Nat.reduceEqDiff,reduceCtorEq,Nat.reduceAdd,Nat.reduceMul,Nat.reduceLeDiff,quietOp,blindOp,Int.reduceEq,Int.reduceLT,Int.reduceLE,Nat.reduceLT,tiA,tiXA, e1, hone]
      refine (golfCode_c q g v R _ H1 hv1.rd2 hl hl2).to ?_
      refine ⟨.inr (.inr (LE.refl _)), ?_⟩
      try simp (disch := first | omega | (simp only [L3] <;> omega)) only [Sall,evalOp,init,binA_s,binE,binI,unE,convE,okNil,builtE,gv,TD.isAgg,resV,↓reduceIte,Nat.reduceEqDiff,reduceCtorEq,Nat.reduceAdd,Nat.reduceMul,Nat.reduceLeDiff,quietOp,blindOp,Int.reduceEq,Int.reduceLT,Int.reduceLE,Nat.reduceLT,tiA,tiXA, Bool.false_and]
  rintro t Hx ⟨h8, h1, h2, h3, rfl⟩
  by_cases hz : glC q g R (decide (0 ≤ i ∧ i ≤ (R.length : Int) - 1) && decide (0 ≤ a ∧ a ≤ q - 1)) = 0
  · obtain ⟨hE, hD⟩ := glC_yes hz
    rw [Bool.and_eq_true, decide_eq_true_iff, decide_eq_true_iff] at hD
    have e3 : ((0 : Int) != 0) = false := rfl
    have eV : goV q g R i a = grpL g.toNat (R.getD i.toNat []) a := by unfold goV; rw [if_pos ⟨hE, hD⟩]
    rw [hz] at h8 ⊢
    rw [eV]
    obtain ⟨n, gN, c, rfl, rfl, q0, q1, q2, q3, q4, q5, q6, q7⟩ := golfB_at hE
    obtain ⟨iN, rfl⟩ : ∃ iN : Nat, i = iN := ⟨i.toNat, by omega⟩
    simp only [Int.toNat_natCast]
    obtain ⟨vi, vo, vu, vc, vr, y, ev, v1, v2, v3, v4⟩ := hv1.get (j := iN) (by omega)
    have ho := q7 iN (by omega)
    have hol := ((ordB_iff n _).1 ho).1
    rw [hol] at v3
    have hyo := v3.rd.one
    obtain ⟨k, hkn, ek⟩ := ord_has ho (show 0 ≤ a ∧ a < (n : Int) by omega)
    have hfi := ixOf_at ho hkn
    rw [ek] at hfi
    have hgr := grpL_at (g := gN) ho hkn
    rw [ek] at hgr
    generalize R.getD iN [] = l at *
    have di : Int.tdiv (k : Int) (gN : Int) = ((k / gN : Nat) : Int) := rfl
    have hg0 : ¬ (gN : Int) = 0 := by omega
    have em : ((k / gN : Nat) : Int) * (gN : Int) = ((k / gN * gN : Nat) : Int) := (Int.natCast_mul _ _).symm
    have lA := Nat.div_mul_le_self k gN
    have ld := Nat.div_le_self k gN
    have hA : k / gN * gN + gN ≤ n := by
      have h1 : k / gN < c := by rw [Nat.div_lt_iff_lt_mul (by omega), Nat.mul_comm, ← q0]; omega
      have h2 : (k / gN + 1) * gN ≤ c * gN := Nat.mul_le_mul_right gN h1
      rw [Nat.succ_mul, Nat.mul_comm c gN, ← q0] at h2
      exact h2
    have wd : ∀ A : Nat, A ≤ 100 → IntKind.i64.wrap (A : Int) = A := fun A hA => w64 ⟨by omega, by omega⟩
    have wd1 := wd (k / gN) (by omega)
    have wd2 := wd (k / gN * gN) (by omega)
    have wd3 := wd (k / gN * gN + gN) (by omega)
    have ea : ((k / gN * gN : Nat) : Int) + (gN : Int) = ((k / gN * gN + gN : Nat) : Int) := by omega
    try simp (disch := first | omega | (simp only [L3] <;> omega)) only [Sall,evalOp,init,binA_s,binE,binI,unE,convE,okNil,builtE,gv,TD.isAgg,resV,↓reduceIte,Nat.reduceEqDiff,reduceCtorEq,Nat.reduceAdd,Nat.reduceMul,Nat.reduceLeDiff,quietOp,blindOp,Int.reduceEq,Int.reduceLT,Int.reduceLE,Nat.reduceLT,tiA,tiXA, h8, e3, h3, h1, h2, e1, ev, v1, v2, v4, hyo]
    refine ⟨⟨by omega, by omega⟩, ?_⟩
    refine draw_in [0, 1, 3, 4, 6, 7, 2, 5, 8, 9] (by kernel_rfl) (by kernel_rfl) (by kernel_rfl) ?_
    try simp (disch := first | omega | (simp only [L3] <;> omega)) only [Sall,evalOp,init,binA_s,binE,binI,unE,convE,okNil,builtE,gv,TD.isAgg,resV,↓reduceIte,Nat.reduceEqDiff,reduceCtorEq,Nat.reduceAdd,Nat.reduceMul,Nat.reduceLeDiff,quietOp,blindOp,Int.reduceEq,Int.reduceLT,Int.reduceLE,Nat.reduceLT,tiA,tiXA, h3, h2, e1, hyo]
    (repeat refine And.intro (by omega) ?_)
    try simp (disch := first | omega | (simp only [L3] <;> omega)) only [Sall,evalOp,init,binA_s,binE,binI,unE,convE,okNil,builtE,gv,TD.isAgg,resV,↓reduceIte,Nat.reduceEqDiff,reduceCtorEq,Nat.reduceAdd,Nat.reduceMul,Nat.reduceLeDiff,quietOp,blindOp,Int.reduceEq,Int.reduceLT,Int.reduceLE,Nat.reduceLT,tiA,tiXA, h3, h2, e1, hyo]
    have v5 : Rd 1 Hx y l.length l := by rw [hol]; exact v3.rd
    refine (indexI_c y l a Hx v5 (by omega)).to ?_
    rw [hfi]
    refine ⟨.inr (.inr (LE.refl _)), ?_⟩
    try simp (disch := first | omega | (simp only [L3] <;> omega)) only [Sall,evalOp,init,binA_s,binE,binI,unE,convE,okNil,builtE,gv,TD.isAgg,resV,↓reduceIte,Nat.reduceEqDiff,reduceCtorEq,Nat.reduceAdd,Nat.reduceMul,Nat.reduceLeDiff,quietOp,blindOp,Int.reduceEq,Int.reduceLT,Int.reduceLE,Nat.reduceLT,tiA,tiXA, di, hg0, wd1, em, wd2, h3, e1, ea, wd3]
    obtain ⟨ys, hcut, rys⟩ := v3.cut (lo := some ((k / gN * gN : Nat) : Int)) (hi := some ((k / gN * gN + gN : Nat) : Int)) (a := k / gN * gN) (b := k / gN * gN + gN) rfl rfl (by omega) hA
    rw [Nat.mul_one, Nat.mul_one, Nat.add_sub_cancel_left] at rys
    refine hcut _ _ _ _ rfl ?_
    have hyso := rys.rd.one
    have hkl : ((l.drop (k / gN * gN)).take gN).length = gN := by have := rys.rd.1; omega
    try simp (disch := first | omega | (simp only [L3] <;> omega)) only [Sall,evalOp,init,binA_s,binE,binI,unE,convE,okNil,builtE,gv,TD.isAgg,resV,↓reduceIte,Nat.reduceEqDiff,reduceCtorEq,Nat.reduceAdd,Nat.reduceMul,Nat.reduceLeDiff,quietOp,blindOp,Int.reduceEq,Int.reduceLT,Int.reduceLE,Nat.reduceLT,tiA,tiXA, hyso]
    refine (values_c ys Hx hyso).to ?_
    have o2 := o1.push ⟨29, true, [ys]⟩
    have e5 : (Hx.push ⟨29, true, [ys]⟩).row Hx.next = some ⟨29, true, [ys]⟩ := by rw [AH.push_row, if_pos rfl]
    refine Holds.mp ?_
    try simp (disch := first | omega | (simp only [L3] <;> omega)) only [Sall,evalOp,init,binA_s,binE,binI,unE,convE,okNil,builtE,gv,TD.isAgg,resV,↓reduceIte,Nat.reduceEqDiff,reduceCtorEq,Nat.reduceAdd,Nat.reduceMul,Nat.reduceLeDiff,quietOp,blindOp,Int.reduceEq,Int.reduceLT,Int.reduceLE,Nat.reduceLT,tiA,tiXA, true_and]
    obtain ⟨b, eb⟩ : ∃ b, b = Hx.next := ⟨_, rfl⟩
    rw [← eb] at e5 ⊢
    have o3 := o2.left (L := [.row pi ⟨26, true, [.int .i64 n, .int .i64 gN, v]⟩])
    have ry2 : Rd 1 (Hx.push ⟨29, true, [ys]⟩) ys ((l.drop (k / gN * gN)).take gN).length ((l.drop (k / gN * gN)).take gN) := by
      rw [hkl]
      exact rys.rd.same fun i r hr => by have := o1.sc _ _ hr; rw [AH.push_row, if_neg (by omega)]; exact hr
    generalize Hx.push ⟨29, true, [ys]⟩ = H2 at o3 ry2 e5 ⊢
    refine ACalls.mono (sorted_c b ys _ H2 e5 ry2 (by omega)).sc ?_
    rintro u H3 ⟨⟨up3, f3⟩, sc3⟩
    have o4 := o3.call (Ow.of_fr up3 sc3 f3)
    have hu := o4.one 1 rfl
    refine Holds.mp ?_
    try simp (disch := first | omega | (simp only [L3] <;> omega)) only [Sall,evalOp,init,binA_s,binE,binI,unE,convE,okNil,builtE,gv,TD.isAgg,resV,↓reduceIte,Nat.reduceEqDiff,reduceCtorEq,Nat.reduceAdd,Nat.reduceMul,Nat.reduceLeDiff,quietOp,blindOp,Int.reduceEq,Int.reduceLT,Int.reduceLE,Nat.reduceLT,tiA,tiXA, hu]
    have e6 : blkL gN l (k / gN) = sortedL ((l.drop (k / gN * gN)).take gN) := rfl
    rw [hgr, e6, sortedL_length]
    exact ⟨u, rfl, o4.only 1 rfl⟩
  · have e3 : (glC q g R (decide (0 ≤ i ∧ i ≤ (R.length : Int) - 1) && decide (0 ≤ a ∧ a ≤ q - 1)) != 0) = true := bne_iff_ne.2 hz
    have eV : goV q g R i a = [] := by
      unfold goV
      rw [if_neg]
      rintro ⟨h1, h2, h3⟩
      apply hz
      unfold glC
      rw [if_pos h1, decide_eq_true h2, decide_eq_true h3]; rfl
    rw [eV]
    try simp (disch := first | omega | (simp only [L3] <;> omega)) only [Sall,evalOp,init,binA_s,binE,binI,unE,convE,okNil,builtE,gv,TD.isAgg,resV,↓reduceIte,Nat.reduceEqDiff,reduceCtorEq,Nat.reduceAdd,Nat.reduceMul,Nat.reduceLeDiff,quietOp,blindOp,Int.reduceEq,Int.reduceLT,Int.reduceLE,Nat.reduceLT,tiA,tiXA, h8, e3]
    exact ⟨_, rfl, Ow.left (L := []) o1 |>.addNil 1 _⟩
end Go.Proofs.Ytpienljnoaendaa.A
end

section
set_option maxRecDepth 100000
set_option maxHeartbeats 2000000
namespace Go.Proofs.Ytpienljnoaendaa.A
open Go Go.Abs Go.RowKit
theorem specTidyRound_c (q g : Int) (v : Value) (R : List (List Int)) (i : Int) (H : AH) (hv : Rg H v R) (hl : R.length ≤ 4194304) (hl2 : ∀ r ∈ R, r.length ≤ 4194304) :
    ACalls Try.prog 15 [.agg #[.int .i64 q, .int .i64 g, v], .int .i64 i] H (fun r H' => ∃ w, r = .tuple #[w, .int .i64 (glC q g R (decide (0 ≤ i ∧ i ≤ (R.length : Int) - 1)))] ∧ Ow H H' [.sl 1 2 w (tidV q g R i).length (ints (tidV q g R i))]) := by
  refine ACalls.wf (by kernel_rfl) fun hs => acalls_of_awp [.tmp 4, .tmp 5] Try.func15 (by kernel_rfl) rfl rfl (Nat.le_of_ble_eq_true rfl) (by kernel_rfl) ?_
  have hone := hv.one
  have o1 := golf_push hs q g v
  try simp (disch := first | omega | (simp only [ints_length, List.length_replicate, List.length_set, bools_length, metL_length] <;> omega)) only [Sall,evalOp,init,binA_s,binE,binI,unE,convE,okNil,builtE,gv,TD.isAgg,resV,↓reduceIte,Nat.reduceEqDiff,reduceCtorEq,Nat.reduceAdd,Nat.reduceMul,Nat.reduceLeDiff,quietOp,blindOp,Int.reduceEq,Int.reduceLT,Int.reduceLE,Nat.reduceLT,tiA,tiXA, hone]
  obtain ⟨pi, epi⟩ : ∃ pi, pi = H.next := ⟨_, rfl⟩
  rw [← epi] at o1 ⊢
  generalize H.push ⟨26, true, [.int .i64 q, .int .i64 g, v]⟩ = H1 at o1 ⊢
  have e1 := (o1.rowAt 0 rfl).1
  have hv1 := hv.same (o1.old hs)
  have rn : Rd 1 H1 (.slice none 0 0) ([] : List Int).length [] := ⟨rfl, .inl ⟨rfl, none, 0, rfl, fun _ => rfl⟩⟩
  try simp (disch := first | omega | (simp only [ints_length, List.length_replicate, List.length_set, bools_length, metL_length] <;> omega)) only [Sall,evalOp,init,binA_s,binE,binI,unE,convE,okNil,builtE,gv,TD.isAgg,resV,↓reduceIte,Nat.reduceEqDiff,reduceCtorEq,Nat.reduceAdd,Nat.reduceMul,Nat.reduceLeDiff,quietOp,blindOp,Int.reduceEq,Int.reduceLT,Int.reduceLE,Nat.reduceLT,tiA,tiXA, e1, hone]
  refine (l08Code_c q g v R i (.slice none 0 0) [] H1 hv1.rd2 hl hl2 rn (by simp)).to ?_
  have eP : ((List.range ([] : List Int).length).all fun k => decide (0 ≤ ([] : List Int).getD k 0 ∧ ([] : List Int).getD k 0 ≤ q - 1)) = true := rfl
  rw [eP, Bool.and_true]
  refine Holds.mp ?_
  by_cases hz : glC q g R (decide (0 ≤ i ∧ i ≤ (R.length : Int) - 1)) = 0
  · obtain ⟨hE, hD⟩ := glC_yes hz
    rw [decide_eq_true_iff] at hD
    have e3 : ((0 : Int) != 0) = false := rfl
    have eV : tidV q g R i = tidF g.toNat (R.getD i.toNat []) q.toNat := by unfold tidV; rw [if_pos ⟨hE, hD⟩]
    rw [hz, eV]
    obtain ⟨n, gN, c, rfl, rfl, q0, q1, q2, q3, q4, q5, q6, q7⟩ := golfB_at hE
    obtain ⟨iN, rfl⟩ : ∃ iN : Nat, i = iN := ⟨i.toNat, by omega⟩
    simp only [Int.toNat_natCast]
    obtain ⟨vi, vo, vu, vc, vr, y, ev, v1, v2, v3, v4⟩ := hv.get (j := iN) (by omega)
    have ho := q7 iN (by omega)
    have hol := ((ordB_iff n _).1 ho).1
    have hrn := ((ordB_iff n _).1 ho).2.1
    rw [hol] at v3
    generalize R.getD iN [] = l at *
    have np : ¬ pi = H1.next := by have := (o1.rowAt 0 rfl).2.2; omega
    have o2 := ((o1.pushSl (k := 1) (n := n) (ty := 4) (vs := bools (metL n [])) (by rw [bools_length, metL_length]; omega)).pushSl (k := 1) (n := 0) (ty := 2) (vs := ints []) rfl)
    have o2 : Ow H ((H1.push ⟨4, true, bools (metL n [])⟩).push ⟨2, true, []⟩) [.row pi ⟨26, true, [.int .i64 n, .int .i64 gN, v]⟩, .sl 1 4 (.slice (some ⟨H1.next, 0, some 1⟩) n n) n (bools (metL n [])), .sl 1 2 (.slice (some ⟨H1.next + 1, 0, some 1⟩) 0 0) 0 (ints [])] := o2
    try simp (disch := first | omega | (simp only [ints_length, List.length_replicate, List.length_set, bools_length, metL_length] <;> omega)) only [Sall,evalOp,init,binA_s,binE,binI,unE,convE,okNil,builtE,gv,TD.isAgg,resV,↓reduceIte,Nat.reduceEqDiff,reduceCtorEq,Nat.reduceAdd,Nat.reduceMul,Nat.reduceLeDiff,quietOp,blindOp,Int.reduceEq,Int.reduceLT,Int.reduceLE,Nat.reduceLT,tiA,tiXA, e3, e1, zeros_bools, ← metL_nil, np]
    (repeat refine And.intro (by omega) ?_)
    try simp (disch := first | omega | (simp only [ints_length, List.length_replicate, List.length_set, bools_length, metL_length] <;> omega)) only [Sall,evalOp,init,binA_s,binE,binI,unE,convE,okNil,builtE,gv,TD.isAgg,resV,↓reduceIte,Nat.reduceEqDiff,reduceCtorEq,Nat.reduceAdd,Nat.reduceMul,Nat.reduceLeDiff,quietOp,blindOp,Int.reduceEq,Int.reduceLT,Int.reduceLE,Nat.reduceLT,tiA,tiXA, e3, e1, zeros_bools, ← metL_nil, np]
    obtain ⟨mi, emi⟩ : ∃ mi, mi = H1.next := ⟨_, rfl⟩
    rw [← emi] at o2 ⊢
    refine awp_loop (fun m t H' => ∃ (a : Nat) (u : Value), m = n - a ∧ a ≤ n ∧ t 9 = .int .i64 a ∧ t 8 = u ∧ t 7 = .slice (some ⟨mi, 0, some 1⟩) n n ∧ t 1 = .int .i64 iN ∧ t 2 = .pointer (some ⟨pi, 0, none⟩) ∧ Ow H H' [.row pi ⟨26, true, [.int .i64 n, .int .i64 gN, v]⟩, .sl 1 4 (.slice (some ⟨mi, 0, some 1⟩) n n) n (bools (metL n (tidF gN l a))), .sl 1 2 u (tidF gN l a).length (ints (tidF gN l a))]) n ?_ ?_
    · refine ⟨0, .slice (some ⟨mi + 1, 0, some 1⟩) 0 0, by omega, by omega, ?_⟩
      try simp (disch := first | omega | (simp only [ints_length, List.length_replicate, List.length_set, bools_length, metL_length] <;> omega)) only [Sall,evalOp,init,binA_s,binE,binI,unE,convE,okNil,builtE,gv,TD.isAgg,resV,↓reduceIte,Nat.reduceEqDiff,reduceCtorEq,Nat.reduceAdd,Nat.reduceMul,Nat.reduceLeDiff,quietOp,blindOp,Int.reduceEq,Int.reduceLT,Int.reduceLE,Nat.reduceLT,tiA,tiXA, Int.natCast_zero]
      exact o2
    · rintro m t H2 ⟨a, u, hm, ha, h9, h8, h7, h1, h2, o3⟩
      have e1 := (o3.rowAt 0 rfl).1
      have hu := o3.one 2 rfl
      try simp (disch := first | omega | (simp only [ints_length, List.length_replicate, List.length_set, bools_length, metL_length] <;> omega)) only [Sall,evalOp,init,binA_s,binE,binI,unE,convE,okNil,builtE,gv,TD.isAgg,resV,↓reduceIte,Nat.reduceEqDiff,reduceCtorEq,Nat.reduceAdd,Nat.reduceMul,Nat.reduceLeDiff,quietOp,blindOp,Int.reduceEq,Int.reduceLT,Int.reduceLE,Nat.reduceLT,tiA,tiXA, h9, h2, e1]
      refine condC_dec (fun hh => ?_) (fun hh => ?_)
      · have hbi := (o3.getV 1 rfl).2.2
        have hml : (metL n (tidF gN l a)).length = n := metL_length _ _
        have hm0 := metL_getD n (tidF gN l a) (a : Int) (by omega)
        have hm1 : (bools (metL n (tidF gN l a)))[a]? = some (.bool ((tidF gN l a).contains (a : Int))) := by
          rw [bools_get? _ _ (by omega)]
          rw [Int.toNat_natCast] at hm0
          rw [hm0]
        cases hct : (tidF gN l a).contains (a : Int) with
        | true =>
          rw [hct] at hm1
          try simp (disch := first | omega | (simp only [ints_length, List.length_replicate, List.length_set, bools_length, metL_length] <;> omega)) only [Sall,evalOp,init,binA_s,binE,binI,unE,convE,okNil,builtE,gv,TD.isAgg,resV,↓reduceIte,Nat.reduceEqDiff,reduceCtorEq,Nat.reduceAdd,Nat.reduceMul,Nat.reduceLeDiff,quietOp,blindOp,Int.reduceEq,Int.reduceLT,Int.reduceLE,Nat.reduceLT,tiA,tiXA, h9, h8, h7, h1, h2, hbi, hm1, w64]
          (repeat refine And.intro (by omega) ?_)
          try simp (disch := first | omega | (simp only [ints_length, List.length_replicate, List.length_set, bools_length, metL_length] <;> omega)) only [Sall,evalOp,init,binA_s,binE,binI,unE,convE,okNil,builtE,gv,TD.isAgg,resV,↓reduceIte,Nat.reduceEqDiff,reduceCtorEq,Nat.reduceAdd,Nat.reduceMul,Nat.reduceLeDiff,quietOp,blindOp,Int.reduceEq,Int.reduceLT,Int.reduceLE,Nat.reduceLT,tiA,tiXA, h9, h8, h7, h1, h2, hbi, hm1, w64]
          have et : tidF gN l (a + 1) = tidF gN l a := by rw [tidF_succ, if_pos hct]
          exact ⟨n - (a + 1), by omega, a + 1, u, rfl, by omega, by omega, rfl, by rw [et]; exact o3⟩
        | false =>
          rw [hct] at hm1
          try simp (disch := first | omega | (simp only [ints_length, List.length_replicate, List.length_set, bools_length, metL_length] <;> omega)) only [Sall,evalOp,init,binA_s,binE,binI,unE,convE,okNil,builtE,gv,TD.isAgg,resV,↓reduceIte,Nat.reduceEqDiff,reduceCtorEq,Nat.reduceAdd,Nat.reduceMul,Nat.reduceLeDiff,quietOp,blindOp,Int.reduceEq,Int.reduceLT,Int.reduceLE,Nat.reduceLT,tiA,tiXA, h9, h8, h7, h1, h2, hbi, hm1, w64]
          (repeat refine And.intro (by omega) ?_)
          try simp (disch := first | omega | (simp only [ints_length, List.length_replicate, List.length_set, bools_length, metL_length] <;> omega)) only [Sall,evalOp,init,binA_s,binE,binI,unE,convE,okNil,builtE,gv,TD.isAgg,resV,↓reduceIte,Nat.reduceEqDiff,reduceCtorEq,Nat.reduceAdd,Nat.reduceMul,Nat.reduceLeDiff,quietOp,blindOp,Int.reduceEq,Int.reduceLT,Int.reduceLE,Nat.reduceLT,tiA,tiXA, h9, h8, h7, h1, h2, hbi, hm1, w64]
          have et : tidF gN l (a + 1) = tidF gN l a ++ grpL gN l (a : Int) := by rw [tidF_succ, if_neg (by rw [hct]; simp)]
          obtain ⟨tb, htb, eg1, eg2⟩ := grp_own (by omega) q0 ho (a := (a : Int)) (by omega)
          have hgl : (grpL gN l (a : Int)).length = gN := by rw [eg1]; exact blk_len q0 ho htb
          have hFl : (tidF gN l a).length ≤ 25 * 25 := Nat.le_trans (tidF_le (by omega) q0 ho a (by omega)) (Nat.mul_le_mul (by omega) (by omega))
          have hgm : ∀ k, k < gN → 0 ≤ (grpL gN l (a : Int)).getD k 0 ∧ (grpL gN l (a : Int)).getD k 0 < (n : Int) := fun k hk => by
            have hm := getD_memI (l := grpL gN l (a : Int)) (i := k) (by omega)
            generalize (grpL gN l (a : Int)).getD k 0 = x at hm
            rw [eg1] at hm
            obtain ⟨j, hj, _, e⟩ := (blk_mem (by omega) q0 ho).1 hm
            rw [← e]
            exact hrn _ (getD_memI (by omega))
          have v1' := o3.old hs _ _ v1
          refine draw_id (by kernel_rfl) (by kernel_rfl) ?_
          try simp (disch := first | omega | (simp only [ints_length, List.length_replicate, List.length_set, bools_length, metL_length] <;> omega)) only [Sall,evalOp,init,binA_s,binE,binI,unE,convE,okNil,builtE,gv,TD.isAgg,resV,↓reduceIte,Nat.reduceEqDiff,reduceCtorEq,Nat.reduceAdd,Nat.reduceMul,Nat.reduceLeDiff,quietOp,blindOp,Int.reduceEq,Int.reduceLT,Int.reduceLE,Nat.reduceLT,tiA,tiXA, h9, h1, h2, e1, hone, ev, v1', v2, v4]
          (repeat refine And.intro (by omega) ?_)
          try simp (disch := first | omega | (simp only [ints_length, List.length_replicate, List.length_set, bools_length, metL_length] <;> omega)) only [Sall,evalOp,init,binA_s,binE,binI,unE,convE,okNil,builtE,gv,TD.isAgg,resV,↓reduceIte,Nat.reduceEqDiff,reduceCtorEq,Nat.reduceAdd,Nat.reduceMul,Nat.reduceLeDiff,quietOp,blindOp,Int.reduceEq,Int.reduceLT,Int.reduceLE,Nat.reduceLT,tiA,tiXA, h9, h1, h2, e1, hone, ev, v1', v2, v4]
          rw [← ev]
          refine ACalls.mono (l08Group_c n gN c q1 q0 q4 q5 v y l (a : Int) H2 hone (v3.same (o3.old hs)) ho (by omega)) ?_
          intro w H3 o4
          have hw := o4.one 0 rfl
          refine ⟨.inr (.inr (o4.up.le o3.sc)), ?_⟩
          have o5 := o3.call o4
          have o5 : Ow H H3 [.row pi ⟨26, true, [.int .i64 n, .int .i64 gN, v]⟩, .sl 1 4 (.slice (some ⟨mi, 0, some 1⟩) n n) n (bools (metL n (tidF gN l a))), .sl 1 2 u (tidF gN l a).length (ints (tidF gN l a)), .sl 1 2 w (grpL gN l (a : Int)).length (ints (grpL gN l (a : Int)))] := o5
          generalize grpL gN l (a : Int) = G at *
          generalize tidF gN l a = F at *
          rw [hgl] at o5
          try simp (disch := first | omega | (simp only [ints_length, List.length_replicate, List.length_set, bools_length, metL_length] <;> omega)) only [Sall,evalOp,init,binA_s,binE,binI,unE,convE,okNil,builtE,gv,TD.isAgg,resV,↓reduceIte,Nat.reduceEqDiff,reduceCtorEq,Nat.reduceAdd,Nat.reduceMul,Nat.reduceLeDiff,quietOp,blindOp,Int.reduceEq,Int.reduceLT,Int.reduceLE,Nat.reduceLT,tiA,tiXA, h9, h8, h7, h1, h2, hw, w64]
          refine awp_loop (fun m' t H' => ∃ k : Nat, m' = gN - k ∧ k ≤ gN ∧ t 11 = .int .i64 k ∧ t 10 = w ∧ t 9 = .int .i64 a ∧ t 8 = u ∧ t 7 = .slice (some ⟨mi, 0, some 1⟩) n n ∧ t 1 = .int .i64 iN ∧ t 2 = .pointer (some ⟨pi, 0, none⟩) ∧ Ow H H' [.row pi ⟨26, true, [.int .i64 n, .int .i64 gN, v]⟩, .sl 1 4 (.slice (some ⟨mi, 0, some 1⟩) n n) n (bools (metL n (F ++ G.take k))), .sl 1 2 u F.length (ints F), .sl 1 2 w gN (ints G)]) gN ?_ ?_
          · refine ⟨0, by omega, by omega, ?_⟩
            try simp (disch := first | omega | (simp only [ints_length, List.length_replicate, List.length_set, bools_length, metL_length] <;> omega)) only [Sall,evalOp,init,binA_s,binE,binI,unE,convE,okNil,builtE,gv,TD.isAgg,resV,↓reduceIte,Nat.reduceEqDiff,reduceCtorEq,Nat.reduceAdd,Nat.reduceMul,Nat.reduceLeDiff,quietOp,blindOp,Int.reduceEq,Int.reduceLT,Int.reduceLE,Nat.reduceLT,tiA,tiXA, Int.natCast_zero, h9, h8, h7, h1, h2, List.take_zero, List.append_nil]
            exact o5
          · rintro m' t H4 ⟨k, hm', hk, h11, h10, h9, h8, h7, h1, h2, o6⟩
            have hwl := (o6.rd 3 rfl).len
            have hu := o6.one 2 rfl
            have hw := o6.one 3 rfl
            try simp (disch := first | omega | (simp only [ints_length, List.length_replicate, List.length_set, bools_length, metL_length] <;> omega)) only [Sall,evalOp,init,binA_s,binE,binI,unE,convE,okNil,builtE,gv,TD.isAgg,resV,↓reduceIte,Nat.reduceEqDiff,reduceCtorEq,Nat.reduceAdd,Nat.reduceMul,Nat.reduceLeDiff,quietOp,blindOp,Int.reduceEq,Int.reduceLT,Int.reduceLE,Nat.reduceLT,tiA,tiXA, h11, h10, builtE, hwl]
            refine condC_dec (fun hh2 => ?_) (fun hh2 => ?_)
            · obtain ⟨wi, _, _, ew, rw6⟩ := o6.get 3 rfl (by omega)
              have hbi := (o6.getV 1 rfl).2.2
              have k1 := ints_get? G k (by omega)
              have hgk := hgm k (by omega)
              have g3 := metL_put n (F ++ G.take k) (G.getD k 0) hgk
              have hml : (metL n (F ++ G.take k)).length = n := metL_length _ _
              have htk : G.take (k + 1) = G.take k ++ [G.getD k 0] := take_snoc G 0 k (by omega)
              have hput := o6.put 1 rfl (vs' := bools (metL n (F ++ G.take k ++ [G.getD k 0]))) (by rw [bools_length, bools_length, metL_length, metL_length])
              try simp (disch := first | omega | (simp only [ints_length, List.length_replicate, List.length_set, bools_length, metL_length] <;> omega)) only [Sall,evalOp,init,binA_s,binE,binI,unE,convE,okNil,builtE,gv,TD.isAgg,resV,↓reduceIte,Nat.reduceEqDiff,reduceCtorEq,Nat.reduceAdd,Nat.reduceMul,Nat.reduceLeDiff,quietOp,blindOp,Int.reduceEq,Int.reduceLT,Int.reduceLE,Nat.reduceLT,tiA,tiXA, h11, h10, h9, h8, h7, h1, h2, ew, rw6, k1, hbi, g3, w64]
              (repeat refine And.intro (by omega) ?_)
              try simp (disch := first | omega | (simp only [ints_length, List.length_replicate, List.length_set, bools_length, metL_length] <;> omega)) only [Sall,evalOp,init,binA_s,binE,binI,unE,convE,okNil,builtE,gv,TD.isAgg,resV,↓reduceIte,Nat.reduceEqDiff,reduceCtorEq,Nat.reduceAdd,Nat.reduceMul,Nat.reduceLeDiff,quietOp,blindOp,Int.reduceEq,Int.reduceLT,Int.reduceLE,Nat.reduceLT,tiA,tiXA, h11, h10, h9, h8, h7, h1, h2, ew, rw6, k1, hbi, g3, w64]
              rw [ew] at hput
              refine ⟨by rw [bools_length, metL_length]; omega, gN - (k + 1), by omega, k + 1, by omega, by omega, rfl, ?_⟩
              rw [htk, ← List.append_assoc]
              exact hput
            · have hke : k = gN := by omega
              rw [hke, List.take_of_length_le (by omega)] at o6
              try simp (disch := first | omega | (simp only [ints_length, List.length_replicate, List.length_set, bools_length, metL_length] <;> omega)) only [Sall,evalOp,init,binA_s,binE,binI,unE,convE,okNil,builtE,gv,TD.isAgg,resV,↓reduceIte,Nat.reduceEqDiff,reduceCtorEq,Nat.reduceAdd,Nat.reduceMul,Nat.reduceLeDiff,quietOp,blindOp,Int.reduceEq,Int.reduceLT,Int.reduceLE,Nat.reduceLT,tiA,tiXA, h8, h10, hu, hw]
              refine o6.slC 3 rfl (by omega) ?_
              refine o6.app 2 (c := gN) (ms := ints G) rfl rfl (by omega) (by rw [ints_length, hgl, Nat.mul_one]) (by omega) (by decide) (by omega) ?_
              · intro v' H5 n5 o7
                try simp (disch := first | omega | (simp only [ints_length, List.length_replicate, List.length_set, bools_length, metL_length] <;> omega)) only [Sall,evalOp,init,binA_s,binE,binI,unE,convE,okNil,builtE,gv,TD.isAgg,resV,↓reduceIte,Nat.reduceEqDiff,reduceCtorEq,Nat.reduceAdd,Nat.reduceMul,Nat.reduceLeDiff,quietOp,blindOp,Int.reduceEq,Int.reduceLT,Int.reduceLE,Nat.reduceLT,tiA,tiXA, h9, h7, h1, h2, w64]
                refine ⟨n - (a + 1), by omega, a + 1, v', by omega, by omega, rfl, rfl, ?_⟩
                rw [et, List.length_append, hgl, ← ints_append]
                exact Ow.left (L := [.row pi ⟨26, true, [.int .i64 n, .int .i64 gN, v]⟩, .sl 1 4 (.slice (some ⟨mi, 0, some 1⟩) n n) n (bools (metL n (F ++ G))), .sl 1 2 v' (F.length + gN) (ints F ++ ints G)]) o7
      · have hae : a = n := by omega
        rw [hae] at o3
        try simp (disch := first | omega | (simp only [ints_length, List.length_replicate, List.length_set, bools_length, metL_length] <;> omega)) only [Sall,evalOp,init,binA_s,binE,binI,unE,convE,okNil,builtE,gv,TD.isAgg,resV,↓reduceIte,Nat.reduceEqDiff,reduceCtorEq,Nat.reduceAdd,Nat.reduceMul,Nat.reduceLeDiff,quietOp,blindOp,Int.reduceEq,Int.reduceLT,Int.reduceLE,Nat.reduceLT,tiA,tiXA, h8, hu]
        exact ⟨u, rfl, o3.only 2 rfl⟩
  · have e3 : (glC q g R (decide (0 ≤ i ∧ i ≤ (R.length : Int) - 1)) != 0) = true := bne_iff_ne.2 hz
    have eV : tidV q g R i = [] := by
      unfold tidV
      rw [if_neg]
      rintro ⟨h1, h2⟩
      apply hz
      unfold glC
      rw [if_pos h1, decide_eq_true h2]; rfl
    rw [eV]
    try simp (disch := first | omega | (simp only [ints_length, List.length_replicate, List.length_set, bools_length, metL_length] <;> omega)) only [Sall,evalOp,init,binA_s,binE,binI,unE,convE,okNil,builtE,gv,TD.isAgg,resV,↓reduceIte,Nat.reduceEqDiff,reduceCtorEq,Nat.reduceAdd,Nat.reduceMul,Nat.reduceLeDiff,quietOp,blindOp,Int.reduceEq,Int.reduceLT,Int.reduceLE,Nat.reduceLT,tiA,tiXA, e3]
    exact ⟨_, rfl, (Ow.left (L := []) o1 |>.addNil 1 2)⟩
end Go.Proofs.Ytpienljnoaendaa.A
end

section
set_option maxRecDepth 100000
namespace Go.Proofs.Ytpienljnoaendaa.A
open Go Go.Abs Go.RowKit
end Go.Proofs.Ytpienljnoaendaa.A
end

section
set_option maxRecDepth 100000
namespace Go.Proofs.Ytpienljnoaendaa.A
open Go Go.Abs Go.RowKit
end Go.Proofs.Ytpienljnoaendaa.A
end

section
set_option maxRecDepth 100000
namespace Go.Proofs.Ytpienljnoaendaa.A
open Go Go.Abs Go.RowKit
end Go.Proofs.Ytpienljnoaendaa.A
end

section
set_option maxRecDepth 100000
namespace Go.Proofs.Ytpienljnoaendaa.A
open Go Go.Abs Go.RowKit
end Go.Proofs.Ytpienljnoaendaa.A
end

section
set_option maxRecDepth 100000
set_option maxHeartbeats 2000000
namespace Go.Proofs.Ytpienljnoaendaa.A
open Go Go.Abs Go.RowKit
end Go.Proofs.Ytpienljnoaendaa.A
end

section
set_option maxRecDepth 100000
set_option maxHeartbeats 2000000
namespace Go.Proofs.Ytpienljnoaendaa.A
open Go Go.Abs Go.RowKit
end Go.Proofs.Ytpienljnoaendaa.A
end

section
set_option maxRecDepth 100000
set_option maxHeartbeats 2000000
namespace Go.Proofs.Ytpienljnoaendaa.A
open Go Go.Abs Go.RowKit
end Go.Proofs.Ytpienljnoaendaa.A
end

section
set_option maxRecDepth 100000
set_option maxHeartbeats 2000000
namespace Go.Proofs.Ytpienljnoaendaa.A
open Go Go.Abs Go.RowKit
theorem isNaN_c (x : Int) (H : AH) : ACalls Try.prog 86 [.int .i64 x] H (is (.bool false) H) := by
  refine acalls_of_awp [.tmp 2] Try.func86 (by kernel_rfl) rfl rfl (Nat.le_of_ble_eq_true rfl) (by kernel_rfl) ?_
  try simp (disch := first | omega | (simp only [L3] <;> omega)) only [Sall,evalOp,init,binA_s,binE,binI,unE,convE,okNil,builtE,gv,TD.isAgg,resV,↓reduceIte,Nat.reduceEqDiff,reduceCtorEq,Nat.reduceAdd,Nat.reduceMul,Nat.reduceLeDiff,quietOp,blindOp,Int.reduceEq,Int.reduceLT,Int.reduceLE,Nat.reduceLT,tiA, bne_self_eq_false, is]
theorem compare_c (x y : Int) (H : AH) : ACalls Try.prog 63 [.int .i64 x, .int .i64 y] H (is (.int .i64 (cmpI x y)) H) := by
  refine acalls_of_awp [.tmp 4] Try.func63 (by kernel_rfl) rfl rfl (Nat.le_of_ble_eq_true rfl) (by kernel_rfl) ?_
  try simp (disch := first | omega | (simp only [L3] <;> omega)) only [Sall,evalOp,init,binA_s,binE,binI,unE,convE,okNil,builtE,gv,TD.isAgg,resV,↓reduceIte,Nat.reduceEqDiff,reduceCtorEq,Nat.reduceAdd,Nat.reduceMul,Nat.reduceLeDiff,quietOp,blindOp,Int.reduceEq,Int.reduceLT,Int.reduceLE,Nat.reduceLT,tiA, true_and]
  refine (isNaN_c x H).to ?_
  try simp (disch := first | omega | (simp only [L3] <;> omega)) only [Sall,evalOp,init,binA_s,binE,binI,unE,convE,okNil,builtE,gv,TD.isAgg,resV,↓reduceIte,Nat.reduceEqDiff,reduceCtorEq,Nat.reduceAdd,Nat.reduceMul,Nat.reduceLeDiff,quietOp,blindOp,Int.reduceEq,Int.reduceLT,Int.reduceLE,Nat.reduceLT,tiA, true_and]
  refine (isNaN_c y H).to ?_
  try simp (disch := first | omega | (simp only [L3] <;> omega)) only [Sall,evalOp,init,binA_s,binE,binI,unE,convE,okNil,builtE,gv,TD.isAgg,resV,↓reduceIte,Nat.reduceEqDiff,reduceCtorEq,Nat.reduceAdd,Nat.reduceMul,Nat.reduceLeDiff,quietOp,blindOp,Int.reduceEq,Int.reduceLT,Int.reduceLE,Nat.reduceLT,tiA, true_and]
  unfold cmpI
  by_cases h1 : x < y
  · rw [if_pos h1]
    try simp (disch := first | omega | (simp only [L3] <;> omega)) only [Sall,evalOp,init,binA_s,binE,binI,unE,convE,okNil,builtE,gv,TD.isAgg,resV,↓reduceIte,Nat.reduceEqDiff,reduceCtorEq,Nat.reduceAdd,Nat.reduceMul,Nat.reduceLeDiff,quietOp,blindOp,Int.reduceEq,Int.reduceLT,Int.reduceLE,Nat.reduceLT,tiA, h1, decide_true, is]
  · rw [if_neg h1]
    by_cases h2 : y < x
    · rw [if_pos h2]
      try simp (disch := first | omega | (simp only [L3] <;> omega)) only [Sall,evalOp,init,binA_s,binE,binI,unE,convE,okNil,builtE,gv,TD.isAgg,resV,↓reduceIte,Nat.reduceEqDiff,reduceCtorEq,Nat.reduceAdd,Nat.reduceMul,Nat.reduceLeDiff,quietOp,blindOp,Int.reduceEq,Int.reduceLT,Int.reduceLE,Nat.reduceLT,tiA, h1, h2, decide_true, decide_false, is]
    · rw [if_neg h2]
      try simp (disch := first | omega | (simp only [L3] <;> omega)) only [Sall,evalOp,init,binA_s,binE,binI,unE,convE,okNil,builtE,gv,TD.isAgg,resV,↓reduceIte,Nat.reduceEqDiff,reduceCtorEq,Nat.reduceAdd,Nat.reduceMul,Nat.reduceLeDiff,quietOp,blindOp,Int.reduceEq,Int.reduceLT,Int.reduceLE,Nat.reduceLT,tiA, h1, h2, decide_false, is]
def Srt (di : Nat) (H0 H : AH) : Prop := H0.next ≤ H.next ∧ (∀ i, i < H0.next → ¬ i = di → H.row i = H0.row i) ∧ Sc H
end Go.Proofs.Ytpienljnoaendaa.A
end

section
set_option maxRecDepth 100000
set_option maxHeartbeats 2000000
namespace Go.Proofs.Ytpienljnoaendaa.A
open Go Go.Abs Go.RowKit
theorem bitsLen64_c (x : Nat) (hx : x < 256) (H : AH) : ACalls Try.prog 77 [.int .u64 x] H (fun r H' => ∃ k, r = .int .i64 k ∧ H' = H ∧ True) := by
  refine acalls_of_awp [.tmp 2] Try.func77 (by kernel_rfl) rfl rfl (Nat.le_of_ble_eq_true rfl) (by kernel_rfl) ?_
  have h1 : ¬ (4294967296 : Int) ≤ (x : Int) := by omega
  have h2 : ¬ (65536 : Int) ≤ (x : Int) := by omega
  have h3 : ¬ (256 : Int) ≤ (x : Int) := by omega
  try simp (disch := first | omega | (simp only [ints_length, List.length_replicate, List.length_set, List.length_map] <;> omega)) only [Sall,evalOp,init,binA_s,binE,binI,unE,convE,okNil,builtE,gv,TD.isAgg,resV,↓reduceIte,Nat.reduceEqDiff,reduceCtorEq,Nat.reduceAdd,Nat.reduceMul,Nat.reduceLeDiff,quietOp,blindOp,Int.reduceEq,Int.reduceLT,Int.reduceLE,Nat.reduceLT,tiA,tiXA, h1, h2, h3, decide_false]
  have hw : IntKind.u8.wrap (x : Int) = (x : Int) := by
    rw [show IntKind.u8.wrap (x : Int) = (x : Int) % 256 from rfl]
    omega
  have hsz : ∀ s : ByteArray, s.size = 256 → (0 ≤ IntKind.u8.wrap (x : Int) ∧ IntKind.u8.wrap (x : Int) < (s.size : Int)) := fun s hs => by rw [hw, hs]; omega
  exact ⟨hsz _ rfl, _, rfl⟩
theorem cmpLL_c (x y : Value) (a b : List Int) (H : AH) (hx : Rd 1 H x a.length a) (hy : Rd 1 H y b.length b) (ha : 0 < a.length) (hb : 0 < b.length) (hne : hdL a ≠ hdL b) :
    ACalls Try.prog 52 [x, y] H (is (.int .i64 (if hdL a < hdL b then -1 else 1)) H) := by
  refine acalls_of_awp [.tmp 4] Try.func52 (by kernel_rfl) rfl rfl (Nat.le_of_ble_eq_true rfl) (by kernel_rfl) ?_
  have lx := hx.len
  have ly := hy.len
  try simp (disch := first | omega | (simp only [ints_length, List.length_replicate, List.length_set, List.length_map] <;> omega)) only [Sall,evalOp,init,binA_s,binE,binI,unE,convE,okNil,builtE,gv,TD.isAgg,resV,↓reduceIte,Nat.reduceEqDiff,reduceCtorEq,Nat.reduceAdd,Nat.reduceMul,Nat.reduceLeDiff,quietOp,blindOp,Int.reduceEq,Int.reduceLT,Int.reduceLE,Nat.reduceLT,tiA,tiXA, lx, builtE]
  refine awp_loop (fun m t H' => t 11 = .int .i64 0 ∧ t 10 = .int .i64 a.length ∧ t 9 = x ∧ t 1 = y ∧ H' = H) 0 ?_ ?_
  · try simp (disch := first | omega | (simp only [ints_length, List.length_replicate, List.length_set, List.length_map] <;> omega)) only [Sall,evalOp,init,binA_s,binE,binI,unE,convE,okNil,builtE,gv,TD.isAgg,resV,↓reduceIte,Nat.reduceEqDiff,reduceCtorEq,Nat.reduceAdd,Nat.reduceMul,Nat.reduceLeDiff,quietOp,blindOp,Int.reduceEq,Int.reduceLT,Int.reduceLE,Nat.reduceLT,tiA,tiXA, true_and]
  · rintro m t H' ⟨h11, h10, h9, h1, rfl⟩
    obtain ⟨xi, xo, xu, xc, xr, ex, x1, x2, x3, _⟩ := hx.get ha
    obtain ⟨yi, yo, yu, yc, yr, ey, y1, y2, y3, _⟩ := hy.get hb
    have x4 := x3 0 (by omega)
    have y4 := y3 0 (by omega)
    have c1 : (0 : Int) < (a.length : Int) := by omega
    have c2 : ¬ (b.length : Int) ≤ (0 : Int) := by omega
    have t0 : Int.toNat 0 = 0 := rfl
    rw [Nat.add_zero] at x4 y4
    have e : (0 : Int) < (b.length : Int) := by omega
    try simp (disch := first | omega | (simp only [ints_length, List.length_replicate, List.length_set, List.length_map] <;> omega)) only [Sall,evalOp,init,binA_s,binE,binI,unE,convE,okNil,builtE,gv,TD.isAgg,resV,↓reduceIte,Nat.reduceEqDiff,reduceCtorEq,Nat.reduceAdd,Nat.reduceMul,Nat.reduceLeDiff,quietOp,blindOp,Int.reduceEq,Int.reduceLT,Int.reduceLE,Nat.reduceLT,tiA,tiXA, h11, h10, h9, h1, c1, c2, decide_true, decide_false, ex, x1, x4, ey, y1, y4, t0, Nat.add_zero, ly, builtE]
    refine ⟨by omega, ?_⟩
    have hab : cmpI (a.getD 0 0) (b.getD 0 0) = if hdL a < hdL b then -1 else 1 := by
      unfold cmpI hdL at *
      split
      · rfl
      · rw [if_pos (by omega)]
    have hnz : ((if hdL a < hdL b then (-1 : Int) else 1) != 0) = true := by split <;> rfl
    refine (compare_c _ _ H').to ?_
    rw [hab]
    refine Holds.mp ?_
    try simp (disch := first | omega | (simp only [ints_length, List.length_replicate, List.length_set, List.length_map] <;> omega)) only [Sall,evalOp,init,binA_s,binE,binI,unE,convE,okNil,builtE,gv,TD.isAgg,resV,↓reduceIte,Nat.reduceEqDiff,reduceCtorEq,Nat.reduceAdd,Nat.reduceMul,Nat.reduceLeDiff,quietOp,blindOp,Int.reduceEq,Int.reduceLT,Int.reduceLE,Nat.reduceLT,tiA,tiXA, hnz]
    exact ⟨rfl, rfl⟩
theorem bitsLen_c (x : Nat) (hx : x < 256) (H : AH) : ACalls Try.prog 60 [.int .u64 x] H (fun r H' => ∃ k, r = .int .i64 k ∧ H' = H ∧ True) := by
  refine acalls_of_awp [.tmp 2] Try.func60 (by kernel_rfl) rfl rfl (Nat.le_of_ble_eq_true rfl) (by kernel_rfl) ?_
  try simp (disch := first | omega | (simp only [ints_length, List.length_replicate, List.length_set, List.length_map] <;> omega)) only [Sall,evalOp,init,binA_s,binE,binI,unE,convE,okNil,builtE,gv,TD.isAgg,resV,↓reduceIte,Nat.reduceEqDiff,reduceCtorEq,Nat.reduceAdd,Nat.reduceMul,Nat.reduceLeDiff,quietOp,blindOp,Int.reduceEq,Int.reduceLT,Int.reduceLE,Nat.reduceLT,tiA,tiXA, true_and]
  refine ACalls.exH (g := fun k => .int .i64 k) (bitsLen64_c x hx H) ?_
  intro k _
  refine Holds.mp ?_
  try simp (disch := first | omega | (simp only [ints_length, List.length_replicate, List.length_set, List.length_map] <;> omega)) only [Sall,evalOp,init,binA_s,binE,binI,unE,convE,okNil,builtE,gv,TD.isAgg,resV,↓reduceIte,Nat.reduceEqDiff,reduceCtorEq,Nat.reduceAdd,Nat.reduceMul,Nat.reduceLeDiff,quietOp,blindOp,Int.reduceEq,Int.reduceLT,Int.reduceLE,Nat.reduceLT,tiA,tiXA, true_and]
  exact ⟨_, rfl⟩
theorem insLL_c (m : Nat) (hm : m ≤ 20) (ps0 : List (Value × List Int)) (hl0 : ps0.length = m) (hk : ps0.Pairwise fun p q => hdL p.2 ≠ hdL q.2) (hne : ∀ p ∈ ps0, 0 < p.2.length) (ui uc : Nat) (H0 : AH) (hui : ui < H0.next) (hst : ∀ H1, Srt ui H0 H1 → RowsP ps0 H1) (hrow : H0.row ui = some ⟨29, true, ps0.map Prod.fst⟩) :
    ACalls Try.prog 78 [.slice (some ⟨ui, 0, some 1⟩) m uc, .int .i64 0, .int .i64 m, .func (.func 52) #[] #[]] H0
      (fun _ H' => ∃ ps : List (Value × List Int), ps.Perm ps0 ∧ (ps.Pairwise fun p q => hdL p.2 ≤ hdL q.2) ∧ Srt ui H0 H' ∧ H'.row ui = some ⟨29, true, ps.map Prod.fst⟩) := by
  refine ACalls.wf (by kernel_rfl) fun hs => acalls_of_awp [] Try.func78 (by kernel_rfl) rfl rfl (Nat.le_of_ble_eq_true rfl) (by kernel_rfl) ?_
  have key : ∀ {z : List (Value × List Int)}, z.Perm ps0 → z.Pairwise fun p q => hdL p.2 ≠ hdL q.2 := fun hp => (hp.pairwise_iff (fun h => Ne.symm h)).2 hk
  try simp (disch := first | omega | (simp only [ints_length, List.length_replicate, List.length_set, List.length_map] <;> omega)) only [Sall,evalOp,init,binA_s,binE,binI,unE,convE,okNil,builtE,gv,TD.isAgg,resV,↓reduceIte,Nat.reduceEqDiff,reduceCtorEq,Nat.reduceAdd,Nat.reduceMul,Nat.reduceLeDiff,quietOp,blindOp,Int.reduceEq,Int.reduceLT,Int.reduceLE,Nat.reduceLT,tiA,tiXA, w64]
  refine awp_loop (fun y t H' => ∃ (i : Nat) (z : List (Value × List Int)), y = m + 1 - i ∧ 1 ≤ i ∧ i ≤ m + 1 ∧ t 8 = .int .i64 i ∧ t 0 = .slice (some ⟨ui, 0, some 1⟩) m uc ∧ t 1 = .int .i64 0 ∧ t 2 = .int .i64 m ∧ t 3 = .func (.func 52) #[] #[] ∧ z.Perm ps0 ∧ ((z.take i).Pairwise fun p q => hdL p.2 ≤ hdL q.2) ∧ Srt ui H0 H' ∧ H'.row ui = some ⟨29, true, z.map Prod.fst⟩) m ?_ ?_
  · refine ⟨1, ps0, by omega, by omega, by omega, ?_⟩
    try simp (disch := first | omega | (simp only [ints_length, List.length_replicate, List.length_set, List.length_map] <;> omega)) only [Sall,evalOp,init,binA_s,binE,binI,unE,convE,okNil,builtE,gv,TD.isAgg,resV,↓reduceIte,Nat.reduceEqDiff,reduceCtorEq,Nat.reduceAdd,Nat.reduceMul,Nat.reduceLeDiff,quietOp,blindOp,Int.reduceEq,Int.reduceLT,Int.reduceLE,Nat.reduceLT,tiA,tiXA, true_and]
    refine ⟨rfl, List.Perm.refl _, ?_, ⟨Nat.le_refl _, fun _ _ _ => rfl, hs⟩, hrow⟩
    cases ps0 with
    | nil => simp
    | cons a y => simp
  · rintro y t H2 ⟨i, z, hy, h1i, hi, h8, h0, h1, h2, h3, hp, hsr, hS, hd⟩
    have hzl := hp.length_eq
    try simp (disch := first | omega | (simp only [ints_length, List.length_replicate, List.length_set, List.length_map] <;> omega)) only [Sall,evalOp,init,binA_s,binE,binI,unE,convE,okNil,builtE,gv,TD.isAgg,resV,↓reduceIte,Nat.reduceEqDiff,reduceCtorEq,Nat.reduceAdd,Nat.reduceMul,Nat.reduceLeDiff,quietOp,blindOp,Int.reduceEq,Int.reduceLT,Int.reduceLE,Nat.reduceLT,tiA,tiXA, h8, h2]
    refine condC_dec (fun hh => ?_) (fun hh => ?_)
    · have hil : i < m := by omega
      have I0 := Ins.start (key := fun p : Value × List Int => hdL p.2) hsr (show i < z.length by omega)
      try simp (disch := first | omega | (simp only [ints_length, List.length_replicate, List.length_set, List.length_map] <;> omega)) only [Sall,evalOp,init,binA_s,binE,binI,unE,convE,okNil,builtE,gv,TD.isAgg,resV,↓reduceIte,Nat.reduceEqDiff,reduceCtorEq,Nat.reduceAdd,Nat.reduceMul,Nat.reduceLeDiff,quietOp,blindOp,Int.reduceEq,Int.reduceLT,Int.reduceLE,Nat.reduceLT,tiA,tiXA, h8, h0, h1, h2, h3]
      refine awp_loop (fun y' t H' => ∃ (A : List (Value × List Int)) (x : Value × List Int) (B C : List (Value × List Int)) (z : List (Value × List Int)), y' = A.length ∧ A.length ≤ i ∧ t 9 = .int .i64 A.length ∧ t 8 = .int .i64 i ∧ t 0 = .slice (some ⟨ui, 0, some 1⟩) m uc ∧ t 1 = .int .i64 0 ∧ t 2 = .int .i64 m ∧ t 3 = .func (.func 52) #[] #[] ∧ z.Perm ps0 ∧ Ins (fun p : Value × List Int => hdL p.2) z i A x B C ∧ Srt ui H0 H' ∧ H'.row ui = some ⟨29, true, z.map Prod.fst⟩) i ?_ ?_
      · have hl1 : (z.take i).length = i := by rw [List.length_take]; omega
        refine ⟨z.take i, z[i], [], z.drop (i + 1), z, by omega, by omega, ?_⟩
        try simp (disch := first | omega | (simp only [ints_length, List.length_replicate, List.length_set, List.length_map] <;> omega)) only [Sall,evalOp,init,binA_s,binE,binI,unE,convE,okNil,builtE,gv,TD.isAgg,resV,↓reduceIte,Nat.reduceEqDiff,reduceCtorEq,Nat.reduceAdd,Nat.reduceMul,Nat.reduceLeDiff,quietOp,blindOp,Int.reduceEq,Int.reduceLT,Int.reduceLE,Nat.reduceLT,tiA,tiXA, h8, h0, h1, h2, h3, hl1]
        exact ⟨hp, I0, hS, hd⟩
      · rintro y' t H3 ⟨A, x, B, C, z, hy', hA, h9, h8, h0, h1, h2, h3, hp, I, hS, hd⟩
        have hzl := hp.length_eq
        have hall := I.len_all
        refine draw_id (by kernel_rfl) (by kernel_rfl) ?_
        by_cases c0 : A.length = 0
        · have e0 : A = [] := List.eq_nil_of_length_eq_zero c0
          subst e0
          have h00 : ¬ (0 : Int) < ((0 : Nat) : Int) := by omega
          have h9 : t 9 = .int .i64 ((0 : Nat) : Int) := h9
          try simp (disch := first | omega | (simp only [ints_length, List.length_replicate, List.length_set, List.length_map] <;> omega)) only [Sall,evalOp,init,binA_s,binE,binI,unE,convE,okNil,builtE,gv,TD.isAgg,resV,↓reduceIte,Nat.reduceEqDiff,reduceCtorEq,Nat.reduceAdd,Nat.reduceMul,Nat.reduceLeDiff,quietOp,blindOp,Int.reduceEq,Int.reduceLT,Int.reduceLE,Nat.reduceLT,tiA,tiXA, h9, h8, h0, h1, h2, h3, h00, decide_false, w64]
          exact ⟨m + 1 - (i + 1), by omega, i + 1, z, by omega, by omega, by omega, rfl, hp, I.exit0, hS, hd⟩
        · obtain ⟨A', zz, rfl⟩ := cons_end (show 0 < A.length by omega)
          have hl1 : (A' ++ [zz]).length = A'.length + 1 := by simp
          rw [hl1] at h9
          have k1 := I.at
          have k2 := I.at1
          rw [hl1] at k1
          have mx : x ∈ ps0 := hp.subset (List.mem_iff_getElem?.2 ⟨_, k1⟩)
          have mz : zz ∈ ps0 := hp.subset (List.mem_iff_getElem?.2 ⟨_, k2⟩)
          have k1' : (z.map Prod.fst)[A'.length + 1]? = some x.1 := by rw [List.getElem?_map, k1]; rfl
          have k2' : (z.map Prod.fst)[A'.length]? = some zz.1 := by rw [List.getElem?_map, k2]; rfl
          have pg : (0 : Int) < ((A'.length + 1 : Nat) : Int) := by omega
          have pm : ((A'.length + 1 : Nat) : Int) - 1 = (A'.length : Int) := by omega
          have hR := hst H3 hS
          have rx := hR x mx
          have rz := hR zz mz
          have o1 := fun r => ok_one (r := r) rx.rd.one
          have o2 := fun r => ok_one (r := r) rz.rd.one
          have q1 := rx.rd.one
          have q2 := rz.rd.one
          have hdne : hdL x.2 ≠ hdL zz.2 := by
            have hk2 := key hp
            rw [I.eq, List.append_assoc, List.pairwise_append] at hk2
            have h4 := hk2.2.1
            rw [List.singleton_append, List.pairwise_cons] at h4
            exact fun e => h4.1 x (by simp) e.symm
          try simp (disch := first | omega | (simp only [ints_length, List.length_replicate, List.length_set, List.length_map] <;> omega)) only [Sall,evalOp,init,binA_s,binE,binI,unE,convE,okNil,builtE,gv,TD.isAgg,resV,↓reduceIte,Nat.reduceEqDiff,reduceCtorEq,Nat.reduceAdd,Nat.reduceMul,Nat.reduceLeDiff,quietOp,blindOp,Int.reduceEq,Int.reduceLT,Int.reduceLE,Nat.reduceLT,tiA,tiXA, h9, h8, h0, h1, h2, h3, pg, pm, decide_true, hd, k1', k2', o1, o2, q1, q2, w64]
          refine ⟨⟨by omega, by omega⟩, ⟨by omega, by omega⟩, ?_⟩
          refine (cmpLL_c x.1 zz.1 x.2 zz.2 H3 rx.rd rz.rd (hne x mx) (hne zz mz) hdne).to ?_
          refine ⟨.inr (.inr (LE.refl _)), ?_⟩
          by_cases cmp : hdL x.2 < hdL zz.2
          · have e1 : (if hdL x.2 < hdL zz.2 then (-1 : Int) else 1) = -1 := if_pos cmp
            have e2 : decide ((-1 : Int) < 0) = true := rfl
            rw [e1]
            try simp (disch := first | omega | (simp only [ints_length, List.length_replicate, List.length_set, List.length_map] <;> omega)) only [Sall,evalOp,init,binA_s,binE,binI,unE,convE,okNil,builtE,gv,TD.isAgg,resV,↓reduceIte,Nat.reduceEqDiff,reduceCtorEq,Nat.reduceAdd,Nat.reduceMul,Nat.reduceLeDiff,quietOp,blindOp,Int.reduceEq,Int.reduceLT,Int.reduceLE,Nat.reduceLT,tiA,tiXA, h9, h8, h0, h1, h2, h3, pg, pm, e2, w64]
            refine draw_id (by kernel_rfl) (by kernel_rfl) ?_
            try simp (disch := first | omega | (simp only [ints_length, List.length_replicate, List.length_set, List.length_map] <;> omega)) only [Sall,evalOp,init,binA_s,binE,binI,unE,convE,okNil,builtE,gv,TD.isAgg,resV,↓reduceIte,Nat.reduceEqDiff,reduceCtorEq,Nat.reduceAdd,Nat.reduceMul,Nat.reduceLeDiff,quietOp,blindOp,Int.reduceEq,Int.reduceLT,Int.reduceLE,Nat.reduceLT,tiA,tiXA, h9, h8, h0, h1, h2, h3, pm, hd, k1', k2', o1, o2, q1, q2, w64]
            obtain ⟨I2, hp2⟩ := I.step (show hdL x.2 ≤ hdL zz.2 by omega)
            have es : ((z.map Prod.fst).set (A'.length + 1) zz.1).set A'.length x.1 = (A' ++ x :: (zz :: B ++ C)).map Prod.fst := by rw [← I.swap, List.map_set, List.map_set]
            rw [es]
            have hS2 : Srt ui H0 (((H3.setCells ui ((z.map Prod.fst).set (A'.length + 1) zz.1)).setCells ui ((A' ++ x :: (zz :: B ++ C)).map Prod.fst))) := ⟨hS.1, fun j hj hne => by rw [AH.setCells_row, if_neg hne, AH.setCells_row, if_neg hne, hS.2.1 j hj hne], (hS.2.2.set _ _).set _ _⟩
            refine ⟨⟨by omega, by omega⟩, ⟨by omega, by omega⟩, ⟨by omega, by omega⟩, by rw [List.length_map]; omega, .inr (.inl (by kernel_rfl)), ⟨by omega, by omega⟩, by rw [List.length_set, List.length_map]; omega, .inr (.inl (by kernel_rfl)), A'.length, by omega, A', x, zz :: B, C, _, rfl, by omega, rfl, hp2.trans hp, I2, hS2, rfl⟩
          · have e1 : (if hdL x.2 < hdL zz.2 then (-1 : Int) else 1) = 1 := if_neg cmp
            have e2 : decide ((1 : Int) < 0) = false := rfl
            rw [e1]
            try simp (disch := first | omega | (simp only [ints_length, List.length_replicate, List.length_set, List.length_map] <;> omega)) only [Sall,evalOp,init,binA_s,binE,binI,unE,convE,okNil,builtE,gv,TD.isAgg,resV,↓reduceIte,Nat.reduceEqDiff,reduceCtorEq,Nat.reduceAdd,Nat.reduceMul,Nat.reduceLeDiff,quietOp,blindOp,Int.reduceEq,Int.reduceLT,Int.reduceLE,Nat.reduceLT,tiA,tiXA, h9, h8, h0, h1, h2, h3, pg, pm, e2, decide_false, w64]
            exact ⟨m + 1 - (i + 1), by omega, i + 1, z, by omega, by omega, by omega, rfl, hp, I.exit1 (show hdL zz.2 ≤ hdL x.2 by omega), hS, hd⟩
    · have hall : z.take i = z := List.take_of_length_le (by omega)
      rw [hall] at hsr
      try simp (disch := first | omega | (simp only [ints_length, List.length_replicate, List.length_set, List.length_map] <;> omega)) only [Sall,evalOp,init,binA_s,binE,binI,unE,convE,okNil,builtE,gv,TD.isAgg,resV,↓reduceIte,Nat.reduceEqDiff,reduceCtorEq,Nat.reduceAdd,Nat.reduceMul,Nat.reduceLeDiff,quietOp,blindOp,Int.reduceEq,Int.reduceLT,Int.reduceLE,Nat.reduceLT,tiA,tiXA, true_and]
      exact ⟨z, hp, hsr, hS, hd⟩
def SortedBy (ui : Nat) (ps0 : List (Value × List Int)) (H0 H' : AH) : Prop := ∃ ps : List (Value × List Int), ps.Perm ps0 ∧ (ps.Pairwise fun p q => hdL p.2 ≤ hdL q.2) ∧ Srt ui H0 H' ∧ H'.row ui = some ⟨29, true, ps.map Prod.fst⟩
theorem pdqLL_c (m : Nat) (hm : m ≤ 12) (ps0 : List (Value × List Int)) (hl0 : ps0.length = m) (hk : ps0.Pairwise fun p q => hdL p.2 ≠ hdL q.2) (hne : ∀ p ∈ ps0, 0 < p.2.length) (ui uc : Nat) (k : Int) (H0 : AH) (hui : ui < H0.next) (hst : ∀ H1, Srt ui H0 H1 → RowsP ps0 H1) (hrow : H0.row ui = some ⟨29, true, ps0.map Prod.fst⟩) :
    ACalls Try.prog 62 [.slice (some ⟨ui, 0, some 1⟩) m uc, .int .i64 0, .int .i64 m, .int .i64 k, .func (.func 52) #[] #[]] H0 (fun _ H' => SortedBy ui ps0 H0 H') := by
  refine acalls_of_awp [] Try.func62 (by kernel_rfl) rfl rfl (Nat.le_of_ble_eq_true rfl) (by kernel_rfl) ?_
  have h12 : (m : Int) ≤ 12 := by omega
  try simp (disch := first | omega | (simp only [ints_length, List.length_replicate, List.length_set, List.length_map] <;> omega)) only [Sall,evalOp,init,binA_s,binE,binI,unE,convE,okNil,builtE,gv,TD.isAgg,resV,↓reduceIte,Nat.reduceEqDiff,reduceCtorEq,Nat.reduceAdd,Nat.reduceMul,Nat.reduceLeDiff,quietOp,blindOp,Int.reduceEq,Int.reduceLT,Int.reduceLE,Nat.reduceLT,tiA,tiXA, true_and]
  refine awp_loop (fun y t H' => t 0 = .slice (some ⟨ui, 0, some 1⟩) m uc ∧ t 1 = .int .i64 0 ∧ t 2 = .int .i64 m ∧ t 4 = .func (.func 52) #[] #[] ∧ H' = H0) 0 ?_ ?_
  · try simp (disch := first | omega | (simp only [ints_length, List.length_replicate, List.length_set, List.length_map] <;> omega)) only [Sall,evalOp,init,binA_s,binE,binI,unE,convE,okNil,builtE,gv,TD.isAgg,resV,↓reduceIte,Nat.reduceEqDiff,reduceCtorEq,Nat.reduceAdd,Nat.reduceMul,Nat.reduceLeDiff,quietOp,blindOp,Int.reduceEq,Int.reduceLT,Int.reduceLE,Nat.reduceLT,tiA,tiXA, true_and]
  · rintro y t H' ⟨h0, h1, h2, h4, rfl⟩
    try simp (disch := first | omega | (simp only [ints_length, List.length_replicate, List.length_set, List.length_map] <;> omega)) only [Sall,evalOp,init,binA_s,binE,binI,unE,convE,okNil,builtE,gv,TD.isAgg,resV,↓reduceIte,Nat.reduceEqDiff,reduceCtorEq,Nat.reduceAdd,Nat.reduceMul,Nat.reduceLeDiff,quietOp,blindOp,Int.reduceEq,Int.reduceLT,Int.reduceLE,Nat.reduceLT,tiA,tiXA, h0, h1, h2, h4, Int.sub_zero, h12, decide_true, w64]
    refine ACalls.mono (insLL_c m (by omega) ps0 hl0 hk hne ui uc H' hui hst hrow) ?_
    rintro v H2 hh
    refine Holds.mp ?_
    try simp (disch := first | omega | (simp only [ints_length, List.length_replicate, List.length_set, List.length_map] <;> omega)) only [Sall,evalOp,init,binA_s,binE,binI,unE,convE,okNil,builtE,gv,TD.isAgg,resV,↓reduceIte,Nat.reduceEqDiff,reduceCtorEq,Nat.reduceAdd,Nat.reduceMul,Nat.reduceLeDiff,quietOp,blindOp,Int.reduceEq,Int.reduceLT,Int.reduceLE,Nat.reduceLT,tiA,tiXA, true_and]
    exact hh
theorem sortLL_c (m : Nat) (hm : m ≤ 12) (ps0 : List (Value × List Int)) (hl0 : ps0.length = m) (hk : ps0.Pairwise fun p q => hdL p.2 ≠ hdL q.2) (hne : ∀ p ∈ ps0, 0 < p.2.length) (ui uc : Nat) (H0 : AH) (hui : ui < H0.next) (hst : ∀ H1, Srt ui H0 H1 → RowsP ps0 H1) (hrow : H0.row ui = some ⟨29, true, ps0.map Prod.fst⟩) :
    ACalls Try.prog 51 [.slice (some ⟨ui, 0, some 1⟩) m uc, .func (.func 52) #[] #[]] H0 (fun _ H' => SortedBy ui ps0 H0 H') := by
  refine acalls_of_awp [] Try.func51 (by kernel_rfl) rfl rfl (Nat.le_of_ble_eq_true rfl) (by kernel_rfl) ?_
  have hw : IntKind.u64.wrap (m : Int) = (m : Int) := by
    rw [show IntKind.u64.wrap (m : Int) = (m : Int) % 18446744073709551616 from rfl]
    omega
  try simp (disch := first | omega | (simp only [ints_length, List.length_replicate, List.length_set, List.length_map] <;> omega)) only [Sall,evalOp,init,binA_s,binE,binI,unE,convE,okNil,builtE,gv,TD.isAgg,resV,↓reduceIte,Nat.reduceEqDiff,reduceCtorEq,Nat.reduceAdd,Nat.reduceMul,Nat.reduceLeDiff,quietOp,blindOp,Int.reduceEq,Int.reduceLT,Int.reduceLE,Nat.reduceLT,tiA,tiXA, builtE, hw]
  refine ACalls.exH (g := fun k => .int .i64 k) (bitsLen_c m (by omega) H0) ?_
  intro k _
  refine Holds.mp ?_
  try simp (disch := first | omega | (simp only [ints_length, List.length_replicate, List.length_set, List.length_map] <;> omega)) only [Sall,evalOp,init,binA_s,binE,binI,unE,convE,okNil,builtE,gv,TD.isAgg,resV,↓reduceIte,Nat.reduceEqDiff,reduceCtorEq,Nat.reduceAdd,Nat.reduceMul,Nat.reduceLeDiff,quietOp,blindOp,Int.reduceEq,Int.reduceLT,Int.reduceLE,Nat.reduceLT,tiA,tiXA, true_and]
  refine ACalls.mono (pdqLL_c m hm ps0 hl0 hk hne ui uc k H0 hui hst hrow) ?_
  rintro v H2 hh
  refine Holds.mp ?_
  try simp (disch := first | omega | (simp only [ints_length, List.length_replicate, List.length_set, List.length_map] <;> omega)) only [Sall,evalOp,init,binA_s,binE,binI,unE,convE,okNil,builtE,gv,TD.isAgg,resV,↓reduceIte,Nat.reduceEqDiff,reduceCtorEq,Nat.reduceAdd,Nat.reduceMul,Nat.reduceLeDiff,quietOp,blindOp,Int.reduceEq,Int.reduceLT,Int.reduceLE,Nat.reduceLT,tiA,tiXA, true_and]
  exact hh
theorem growI_c (N : Nat) (hN : 0 < N ∧ N ≤ 1000) (H : AH) : ACalls Try.prog 64 [.slice none 0 0, .int .i64 N] H (fun w H' => ∃ i, w = .slice (some ⟨i, 0, some 1⟩) 0 0 ∧ Ow H H' [.sl 1 2 (.slice (some ⟨i, 0, some 1⟩) N N) N (ints (List.replicate N 0))]) := by
  refine ACalls.wf (by kernel_rfl) fun hs => acalls_of_awp [.tmp 4] Try.func64 (by kernel_rfl) rfl rfl (Nat.le_of_ble_eq_true rfl) (by kernel_rfl) ?_
  have h1 : ¬ (N : Int) < 0 := by omega
  have h2 : (0 : Int) < (N : Int) := by omega
  have zn : zeros N [.int .i64 0] = ints (List.replicate N 0) := by simp [zeros, ints]
  try simp (disch := first | omega | (simp only [ints_length, List.length_replicate, List.length_set, List.length_map] <;> omega)) only [Sall,evalOp,init,binA_s,binE,binI,unE,convE,okNil,builtE,gv,TD.isAgg,resV,↓reduceIte,Nat.reduceEqDiff,reduceCtorEq,Nat.reduceAdd,Nat.reduceMul,Nat.reduceLeDiff,quietOp,blindOp,Int.reduceEq,Int.reduceLT,Int.reduceLE,Nat.reduceLT,tiA,tiXA, builtE, h1, h2, decide_false, decide_true, Int.sub_zero, Int.sub_self, w64]
  have s0 : ∀ (E : TI) (H : AH), sliceE E (.slice none 0 0) none (some 0) none H = .need ((0 : Int) = 0 ∧ (0 : Int) = 0 ∧ (0 : Int) = 0) (.val (.slice none 0 0) H) := fun _ _ => rfl
  have s1 : ∀ (E : TI) (i N : Nat) (H : AH), sliceE E (.slice (some ⟨i, 0, some 1⟩) N N) none (some 0) none H = .need ((0 : Int) ≤ 0 ∧ (0 : Int) ≤ 0 ∧ (0 : Int) ≤ (N : Int) ∧ 1 = E.size) (.val (.slice (some ⟨i, 0 + (0 : Int).toNat * E.size, some 1⟩) ((0 : Int).toNat - (0 : Int).toNat) ((0 : Int).toNat - (0 : Int).toNat)) H) := fun _ _ _ _ => rfl
  try simp (disch := first | omega | (simp only [ints_length, List.length_replicate, List.length_set, List.length_map] <;> omega)) only [Sall,evalOp,init,binA_s,binE,binI,unE,convE,okNil,builtE,gv,TD.isAgg,resV,↓reduceIte,Nat.reduceEqDiff,reduceCtorEq,Nat.reduceAdd,Nat.reduceMul,Nat.reduceLeDiff,quietOp,blindOp,Int.reduceEq,Int.reduceLT,Int.reduceLE,Nat.reduceLT,tiA,tiXA, s0, s1, growE, zn, builtE, w64]
  refine ⟨⟨by omega, by omega⟩, by omega, ?_⟩
  exact ⟨H.next, rfl, (Ow.refl hs).pushSl (k := 1) (n := N) (ty := 2) (vs := ints (List.replicate N 0)) (by simp [ints])⟩
def sumL (ps : List (Value × List Int)) : Nat := (ps.map Prod.snd).flatten.length
theorem concatI_c (m uc ui : Nat) (ps : List (Value × List Int)) (hm : ps.length = m) (hm2 : m ≤ 1000) (hN : 0 < sumL ps ∧ sumL ps ≤ 1000) (hpos : ∀ p ∈ ps, 0 < p.2.length) (H : AH) (hrow : H.row ui = some ⟨29, true, ps.map Prod.fst⟩) (hR : RowsP ps H) :
    ACalls Try.prog 53 [.slice (some ⟨ui, 0, some 1⟩) m uc] H (fun w H' => Ow H H' [.sl 1 2 w (sumL ps) (ints (ps.map Prod.snd).flatten)]) := by
  refine ACalls.wf (by kernel_rfl) fun hs => acalls_of_awp [.tmp 2] Try.func53 (by kernel_rfl) rfl rfl (Nat.le_of_ble_eq_true rfl) (by kernel_rfl) ?_
  have hsnoc : ∀ j, (hj : j < ps.length) → ((ps.take (j + 1)).map Prod.snd).flatten = ((ps.take j).map Prod.snd).flatten ++ ps[j].2 := fun j hj => by
    rw [List.take_succ_eq_append_getElem hj, List.map_append, List.flatten_append]; simp
  have hle : ∀ j, j ≤ ps.length → ((ps.take j).map Prod.snd).flatten.length ≤ sumL ps := fun j hj => by
    unfold sumL
    conv => rhs; rw [← List.take_append_drop j ps]
    rw [List.map_append, List.flatten_append, List.length_append]
    omega
  try simp (disch := first | omega | (simp only [ints_length, List.length_replicate, List.length_set, List.length_map] <;> omega)) only [Sall,evalOp,init,binA_s,binE,binI,unE,convE,okNil,builtE,gv,TD.isAgg,resV,↓reduceIte,Nat.reduceEqDiff,reduceCtorEq,Nat.reduceAdd,Nat.reduceMul,Nat.reduceLeDiff,quietOp,blindOp,Int.reduceEq,Int.reduceLT,Int.reduceLE,Nat.reduceLT,tiA,tiXA, builtE]
  refine awp_loop (fun y t H' => ∃ j : Nat, y = m - j ∧ j ≤ m ∧ t 11 = .int .i64 j ∧ t 10 = .int .i64 m ∧ t 9 = .slice (some ⟨ui, 0, some 1⟩) m uc ∧ t 3 = .int .i64 ((ps.take j).map Prod.snd).flatten.length ∧ t 0 = .slice (some ⟨ui, 0, some 1⟩) m uc ∧ H' = H) m ?_ ?_
  · refine ⟨0, by omega, by omega, ?_⟩
    try simp (disch := first | omega | (simp only [ints_length, List.length_replicate, List.length_set, List.length_map] <;> omega)) only [Sall,evalOp,init,binA_s,binE,binI,unE,convE,okNil,builtE,gv,TD.isAgg,resV,↓reduceIte,Nat.reduceEqDiff,reduceCtorEq,Nat.reduceAdd,Nat.reduceMul,Nat.reduceLeDiff,quietOp,blindOp,Int.reduceEq,Int.reduceLT,Int.reduceLE,Nat.reduceLT,tiA,tiXA, Int.natCast_zero, List.take_zero, List.map_nil, List.flatten_nil, List.length_nil]
  · rintro y t H1 ⟨j, hy, hj, h11, h10, h9, h3, h0, rfl⟩
    try simp (disch := first | omega | (simp only [ints_length, List.length_replicate, List.length_set, List.length_map] <;> omega)) only [Sall,evalOp,init,binA_s,binE,binI,unE,convE,okNil,builtE,gv,TD.isAgg,resV,↓reduceIte,Nat.reduceEqDiff,reduceCtorEq,Nat.reduceAdd,Nat.reduceMul,Nat.reduceLeDiff,quietOp,blindOp,Int.reduceEq,Int.reduceLT,Int.reduceLE,Nat.reduceLT,tiA,tiXA, h11, h10]
    refine condC_dec (fun hh => ?_) (fun hh => ?_)
    · have hjm : j < ps.length := by omega
      have k1 : (ps.map Prod.fst)[j]? = some ps[j].1 := by rw [List.getElem?_map, List.getElem?_eq_getElem hjm]; rfl
      have hrj := hR ps[j] (List.getElem_mem hjm)
      have hrl := hrj.rd.len
      have ho := fun r => ok_one (r := r) hrj.rd.one
      have ho1 := hrj.rd.one
      have hsn := hsnoc j hjm
      have hl1 := hle (j + 1) (by omega)
      rw [hsn, List.length_append] at hl1
      have ng : ¬ (((((ps.take j).map Prod.snd).flatten.length : Nat) : Int) + ((ps[j].2.length : Nat) : Int) < 0) := by omega
      try simp (disch := first | omega | (simp only [ints_length, List.length_replicate, List.length_set, List.length_map] <;> omega)) only [Sall,evalOp,init,binA_s,binE,binI,unE,convE,okNil,builtE,gv,TD.isAgg,resV,↓reduceIte,Nat.reduceEqDiff,reduceCtorEq,Nat.reduceAdd,Nat.reduceMul,Nat.reduceLeDiff,quietOp,blindOp,Int.reduceEq,Int.reduceLT,Int.reduceLE,Nat.reduceLT,tiA,tiXA, h11, h10, h9, h3, h0, hrow, k1, ho, ho1, builtE, hrl, ng, decide_false, w64]
      refine ⟨⟨by omega, by omega⟩, m - (j + 1), by omega, j + 1, by omega, by omega, by omega, ?_⟩
      rw [hsn, List.length_append]
      omega
    · have hjm : j = m := by omega
      have htk : ps.take j = ps := List.take_of_length_le (by omega)
      rw [htk] at h3
      have h3 : t 3 = .int .i64 (sumL ps) := h3
      try simp (disch := first | omega | (simp only [ints_length, List.length_replicate, List.length_set, List.length_map] <;> omega)) only [Sall,evalOp,init,binA_s,binE,binI,unE,convE,okNil,builtE,gv,TD.isAgg,resV,↓reduceIte,Nat.reduceEqDiff,reduceCtorEq,Nat.reduceAdd,Nat.reduceMul,Nat.reduceLeDiff,quietOp,blindOp,Int.reduceEq,Int.reduceLT,Int.reduceLE,Nat.reduceLT,tiA,tiXA, h3, h0]
      refine ACalls.ex (g := fun i : Nat => .slice (some ⟨i, 0, some 1⟩) 0 0) (growI_c (sumL ps) hN H1) ?_
      intro wi H2 o1
      refine Holds.mp ?_
      try simp (disch := first | omega | (simp only [ints_length, List.length_replicate, List.length_set, List.length_map] <;> omega)) only [Sall,evalOp,init,binA_s,binE,binI,unE,convE,okNil,builtE,gv,TD.isAgg,resV,↓reduceIte,Nat.reduceEqDiff,reduceCtorEq,Nat.reduceAdd,Nat.reduceMul,Nat.reduceLeDiff,quietOp,blindOp,Int.reduceEq,Int.reduceLT,Int.reduceLE,Nat.reduceLT,tiA,tiXA, h0, builtE]
      obtain ⟨N, eN⟩ : ∃ N, N = sumL ps := ⟨_, rfl⟩
      rw [← eN] at o1 hle ⊢
      refine awp_loop (fun y t H' => ∃ (j : Nat) (F : List Int), y = m - j ∧ j ≤ m ∧ F = ((ps.take j).map Prod.snd).flatten ∧ t 27 = .int .i64 j ∧ t 26 = .int .i64 m ∧ t 25 = .slice (some ⟨ui, 0, some 1⟩) m uc ∧ t 6 = .slice (some ⟨wi, 0, some 1⟩) F.length F.length ∧ Ow H1 H' [.sl 1 2 (.slice (some ⟨wi, 0, some 1⟩) N N) N (ints (F ++ List.replicate (N - F.length) 0))]) m ?_ ?_
      · refine ⟨0, [], by omega, by omega, rfl, ?_⟩
        try simp (disch := first | omega | (simp only [ints_length, List.length_replicate, List.length_set, List.length_map] <;> omega)) only [Sall,evalOp,init,binA_s,binE,binI,unE,convE,okNil,builtE,gv,TD.isAgg,resV,↓reduceIte,Nat.reduceEqDiff,reduceCtorEq,Nat.reduceAdd,Nat.reduceMul,Nat.reduceLeDiff,quietOp,blindOp,Int.reduceEq,Int.reduceLT,Int.reduceLE,Nat.reduceLT,tiA,tiXA, Int.natCast_zero]
        exact o1
      · rintro y t H3 ⟨j, F, hy, hj, hF, h27, h26, h25, h6, o2⟩
        try simp (disch := first | omega | (simp only [ints_length, List.length_replicate, List.length_set, List.length_map] <;> omega)) only [Sall,evalOp,init,binA_s,binE,binI,unE,convE,okNil,builtE,gv,TD.isAgg,resV,↓reduceIte,Nat.reduceEqDiff,reduceCtorEq,Nat.reduceAdd,Nat.reduceMul,Nat.reduceLeDiff,quietOp,blindOp,Int.reduceEq,Int.reduceLT,Int.reduceLE,Nat.reduceLT,tiA,tiXA, h27, h26]
        refine condC_dec (fun hh2 => ?_) (fun hh2 => ?_)
        · have hjm : j < ps.length := by omega
          have k1 : (ps.map Prod.fst)[j]? = some ps[j].1 := by rw [List.getElem?_map, List.getElem?_eq_getElem hjm]; rfl
          have hrj := (hR ps[j] (List.getElem_mem hjm)).same (o2.old hs)
          have ho := fun r => ok_one (r := r) hrj.rd.one
          have ho1 := hrj.rd.one
          have hsn := hsnoc j hjm
          have hl1 := hle (j + 1) (by omega)
          rw [hsn, ← hF, List.length_append] at hl1
          have hrow' := o2.old hs _ _ hrow
          have hpj := hpos ps[j] (List.getElem_mem hjm)
          have hwr := (o2.getV 0 rfl).2.2
          generalize ps[j].2 = x at *
          generalize ps[j].1 = xv at *
          try simp (disch := first | omega | (simp only [ints_length, List.length_replicate, List.length_set, List.length_map] <;> omega)) only [Sall,evalOp,init,binA_s,binE,binI,unE,convE,okNil,builtE,gv,TD.isAgg,resV,↓reduceIte,Nat.reduceEqDiff,reduceCtorEq,Nat.reduceAdd,Nat.reduceMul,Nat.reduceLeDiff,quietOp,blindOp,Int.reduceEq,Int.reduceLT,Int.reduceLE,Nat.reduceLT,tiA,tiXA, h27, h26, h25, h6, hrow', k1, ho, ho1]
          (repeat refine And.intro (by omega) ?_)
          try simp (disch := first | omega | (simp only [ints_length, List.length_replicate, List.length_set, List.length_map] <;> omega)) only [Sall,evalOp,init,binA_s,binE,binI,unE,convE,okNil,builtE,gv,TD.isAgg,resV,↓reduceIte,Nat.reduceEqDiff,reduceCtorEq,Nat.reduceAdd,Nat.reduceMul,Nat.reduceLeDiff,quietOp,blindOp,Int.reduceEq,Int.reduceLT,Int.reduceLE,Nat.reduceLT,tiA,tiXA, h27, h26, h25, h6, hrow', k1, ho, ho1]
          refine hrj.rd.slC hpj ?_
          have hfl : F.length + x.length ≤ N := hl1
          have hx0 : ¬ x.length = 0 := by omega
          have esp : splice (ints (F ++ List.replicate (N - F.length) 0)) F.length (ints x) = ints (F ++ x ++ List.replicate (N - (F ++ x).length) 0) := by
            unfold splice
            rw [← ints_append F, List.take_left' (ints_length F), ints_length, ← List.drop_drop, List.drop_left' (ints_length F)]
            have e2 : (ints (List.replicate (N - F.length) 0)).drop x.length = ints (List.replicate (N - (F ++ x).length) 0) := by
              unfold ints
              rw [← List.map_drop, List.drop_replicate, List.length_append]
              congr 2
              omega
            rw [e2, ints_append, ints_append]
          unfold appE
          rw [if_neg hx0]
          have hlN : (ints (F ++ List.replicate (N - F.length) 0)).length = N := by rw [ints_length, List.length_append, List.length_replicate]; omega
          try simp (disch := first | omega | (simp only [ints_length, List.length_replicate, List.length_set, List.length_map] <;> omega)) only [Sall,evalOp,init,binA_s,binE,binI,unE,convE,okNil,builtE,gv,TD.isAgg,resV,↓reduceIte,Nat.reduceEqDiff,reduceCtorEq,Nat.reduceAdd,Nat.reduceMul,Nat.reduceLeDiff,quietOp,blindOp,Int.reduceEq,Int.reduceLT,Int.reduceLE,Nat.reduceLT,tiA,tiXA, hwr, hlN, hfl, esp]
          have hput := o2.put 0 rfl (vs' := ints (F ++ x ++ List.replicate (N - (F ++ x).length) 0)) (by rw [ints_length, hlN, List.length_append, List.length_append, List.length_replicate]; omega)
          refine ⟨⟨by omega, by omega⟩, .inr trivial, ?_⟩
          try simp (disch := first | omega | (simp only [ints_length, List.length_replicate, List.length_set, List.length_map] <;> omega)) only [Sall,evalOp,init,binA_s,binE,binI,unE,convE,okNil,builtE,gv,TD.isAgg,resV,↓reduceIte,Nat.reduceEqDiff,reduceCtorEq,Nat.reduceAdd,Nat.reduceMul,Nat.reduceLeDiff,quietOp,blindOp,Int.reduceEq,Int.reduceLT,Int.reduceLE,Nat.reduceLT,tiA,tiXA, h27, h26, h25, w64]
          refine ⟨m - (j + 1), by omega, j + 1, F ++ x, by omega, by omega, by rw [hF, hsn], rfl, ?_, ?_⟩
          · rw [List.length_append]
          · exact hput
        · have hjm : j = m := by omega
          have htk : ps.take j = ps := List.take_of_length_le (by omega)
          rw [htk] at hF
          have hFN : F.length = N := by rw [hF, eN]; rfl
          rw [hFN, Nat.sub_self, List.replicate_zero, List.append_nil] at o2
          rw [hFN] at h6
          try simp (disch := first | omega | (simp only [ints_length, List.length_replicate, List.length_set, List.length_map] <;> omega)) only [Sall,evalOp,init,binA_s,binE,binI,unE,convE,okNil,builtE,gv,TD.isAgg,resV,↓reduceIte,Nat.reduceEqDiff,reduceCtorEq,Nat.reduceAdd,Nat.reduceMul,Nat.reduceLeDiff,quietOp,blindOp,Int.reduceEq,Int.reduceLT,Int.reduceLE,Nat.reduceLT,tiA,tiXA, h6]
          rw [← hF]
          exact o2
end Go.Proofs.Ytpienljnoaendaa.A
end

section
set_option maxRecDepth 100000
set_option maxHeartbeats 2000000
namespace Go.Proofs.Ytpienljnoaendaa.A
open Go Go.Abs Go.RowKit
theorem tidy_c (n g c : Nat) (hg : 2 ≤ g) (hn : n = g * c) (hc : 1 ≤ c) (hn25 : n ≤ 25) (hgn : g ≤ n) (v y : Value) (l : List Int) (H : AH) (hone : v.oneCell' = true) (hy : Rs 1 H y n l) (ho : ordB n l = true) :
    ACalls Try.prog 35 [.agg #[.int .i64 n, .int .i64 g, v], y] H (fun w H' => Ow H H' [.sl 1 2 w n (ints (tidF g l n))]) := by
  refine ACalls.wf (by kernel_rfl) fun hs => acalls_of_awp [.tmp 4] Try.func35 (by kernel_rfl) rfl rfl (Nat.le_of_ble_eq_true rfl) (by kernel_rfl) ?_
  have hyo := hy.rd.one
  have o1 := ((golf_push hs n g v).pushSl (k := 1) (n := 0) (ty := 29) (vs := []) rfl).addSee (Q := RowsP []) (fun _ p hp => by simp at hp)
  have hc12 : c ≤ 12 := by
    have h1 : 2 * c ≤ g * c := Nat.mul_le_mul_right c hg
    omega
  have hlk : l.length = n := ((ordB_iff n l).1 ho).1
  try simp (disch := first | omega | (simp only [ints_length, List.length_replicate, List.length_set, List.length_map] <;> omega)) only [Sall,evalOp,init,binA_s,binE,binI,unE,convE,okNil,builtE,gv,TD.isAgg,resV,↓reduceIte,Nat.reduceEqDiff,reduceCtorEq,Nat.reduceAdd,Nat.reduceMul,Nat.reduceLeDiff,quietOp,blindOp,Int.reduceEq,Int.reduceLT,Int.reduceLE,Nat.reduceLT,tiA,tiXA, hone, hyo]
  (repeat refine And.intro (by omega) ?_)
  try simp (disch := first | omega | (simp only [ints_length, List.length_replicate, List.length_set, List.length_map] <;> omega)) only [Sall,evalOp,init,binA_s,binE,binI,unE,convE,okNil,builtE,gv,TD.isAgg,resV,↓reduceIte,Nat.reduceEqDiff,reduceCtorEq,Nat.reduceAdd,Nat.reduceMul,Nat.reduceLeDiff,quietOp,blindOp,Int.reduceEq,Int.reduceLT,Int.reduceLE,Nat.reduceLT,tiA,tiXA, hone, hyo]
  have o1 : Ow H ((H.push ⟨26, true, [.int .i64 n, .int .i64 g, v]⟩).push ⟨29, true, []⟩) [.row H.next ⟨26, true, [.int .i64 n, .int .i64 g, v]⟩, .sl 1 29 (.slice (some ⟨H.next + 1, 0, some 1⟩) 0 0) 0 [], .see (RowsP [])] := o1
  obtain ⟨pi, epi⟩ : ∃ pi, pi = H.next := ⟨_, rfl⟩
  rw [← epi] at o1 ⊢
  refine awp_loop (fun m t H' => ∃ (a : Nat) (u : Value) (ps : List (Value × List Int)), m = c - a ∧ a ≤ c ∧ ps.map Prod.snd = (List.range a).map (blkL g l) ∧ t 6 = .int .i64 ((a * g : Nat) : Int) ∧ t 5 = u ∧ t 1 = y ∧ t 2 = .pointer (some ⟨pi, 0, none⟩) ∧ Ow H H' [.row pi ⟨26, true, [.int .i64 n, .int .i64 g, v]⟩, .sl 1 29 u a (ps.map Prod.fst), .see (RowsP ps)]) c ?_ ?_
  · refine ⟨0, .slice (some ⟨pi + 1, 0, some 1⟩) 0 0, [], by omega, by omega, rfl, ?_⟩
    try simp (disch := first | omega | (simp only [ints_length, List.length_replicate, List.length_set, List.length_map] <;> omega)) only [Sall,evalOp,init,binA_s,binE,binI,unE,convE,okNil,builtE,gv,TD.isAgg,resV,↓reduceIte,Nat.reduceEqDiff,reduceCtorEq,Nat.reduceAdd,Nat.reduceMul,Nat.reduceLeDiff,quietOp,blindOp,Int.reduceEq,Int.reduceLT,Int.reduceLE,Nat.reduceLT,tiA,tiXA, Nat.zero_mul, Int.natCast_zero]
    exact o1
  · rintro m t H1 ⟨a, u, ps, hm, ha, hps, h6, h5, h1, h2, o2⟩
    have e1 := (o2.rowAt 0 rfl).1
    have hu := o2.one 1 rfl
    try simp (disch := first | omega | (simp only [ints_length, List.length_replicate, List.length_set, List.length_map] <;> omega)) only [Sall,evalOp,init,binA_s,binE,binI,unE,convE,okNil,builtE,gv,TD.isAgg,resV,↓reduceIte,Nat.reduceEqDiff,reduceCtorEq,Nat.reduceAdd,Nat.reduceMul,Nat.reduceLeDiff,quietOp,blindOp,Int.reduceEq,Int.reduceLT,Int.reduceLE,Nat.reduceLT,tiA,tiXA, h6, h2, e1]
    have hcn : (((a * g : Nat) : Int) < (n : Int)) ↔ a < c := by
      rw [hn, Nat.mul_comm g c]
      constructor
      · intro h
        have h : a * g < c * g := by omega
        exact Nat.lt_of_mul_lt_mul_right h
      · intro h
        have : a * g < c * g := Nat.mul_lt_mul_of_pos_right h (by omega)
        omega
    refine condC_dec (fun hh => ?_) (fun hh => ?_)
    · have hac : a < c := hcn.1 hh
      have hA : a * g + g ≤ n := by
        have h2 : (a + 1) * g ≤ c * g := Nat.mul_le_mul_right g hac
        rw [Nat.succ_mul, Nat.mul_comm c g, ← hn] at h2
        exact h2
      have wd : ∀ A : Nat, A ≤ 100 → IntKind.i64.wrap (A : Int) = A := fun A hA => w64 ⟨by omega, by omega⟩
      have wd3 := wd (a * g + g) (by omega)
      have ea : ((a * g : Nat) : Int) + (g : Int) = ((a * g + g : Nat) : Int) := by omega
      have hy1 := hy.same (o2.old hs)
      obtain ⟨ys, hcut, rys⟩ := hy1.cut (lo := some ((a * g : Nat) : Int)) (hi := some ((a * g + g : Nat) : Int)) (a := a * g) (b := a * g + g) rfl rfl (by omega) hA
      rw [Nat.mul_one, Nat.mul_one, Nat.add_sub_cancel_left] at rys
      have hyso := rys.rd.one
      have hkl : ((l.drop (a * g)).take g).length = g := by have := rys.rd.1; omega
      try simp (disch := first | omega | (simp only [ints_length, List.length_replicate, List.length_set, List.length_map] <;> omega)) only [Sall,evalOp,init,binA_s,binE,binI,unE,convE,okNil,builtE,gv,TD.isAgg,resV,↓reduceIte,Nat.reduceEqDiff,reduceCtorEq,Nat.reduceAdd,Nat.reduceMul,Nat.reduceLeDiff,quietOp,blindOp,Int.reduceEq,Int.reduceLT,Int.reduceLE,Nat.reduceLT,tiA,tiXA, h6, h5, h1, h2, e1, ea, wd3]
      refine hcut _ _ _ _ rfl ?_
      try simp (disch := first | omega | (simp only [ints_length, List.length_replicate, List.length_set, List.length_map] <;> omega)) only [Sall,evalOp,init,binA_s,binE,binI,unE,convE,okNil,builtE,gv,TD.isAgg,resV,↓reduceIte,Nat.reduceEqDiff,reduceCtorEq,Nat.reduceAdd,Nat.reduceMul,Nat.reduceLeDiff,quietOp,blindOp,Int.reduceEq,Int.reduceLT,Int.reduceLE,Nat.reduceLT,tiA,tiXA, hyso]
      refine (values_c ys H1 hyso).to ?_
      have o3 := o2.tmp ⟨29, true, [ys]⟩
      have e5 : (H1.push ⟨29, true, [ys]⟩).row H1.next = some ⟨29, true, [ys]⟩ := by rw [AH.push_row, if_pos rfl]
      have ry2 : Rd 1 (H1.push ⟨29, true, [ys]⟩) ys ((l.drop (a * g)).take g).length ((l.drop (a * g)).take g) := by
        rw [hkl]
        exact rys.rd.same fun i r hr => by have := o2.sc _ _ hr; rw [AH.push_row, if_neg (by omega)]; exact hr
      refine Holds.mp ?_
      try simp (disch := first | omega | (simp only [ints_length, List.length_replicate, List.length_set, List.length_map] <;> omega)) only [Sall,evalOp,init,binA_s,binE,binI,unE,convE,okNil,builtE,gv,TD.isAgg,resV,↓reduceIte,Nat.reduceEqDiff,reduceCtorEq,Nat.reduceAdd,Nat.reduceMul,Nat.reduceLeDiff,quietOp,blindOp,Int.reduceEq,Int.reduceLT,Int.reduceLE,Nat.reduceLT,tiA,tiXA, true_and]
      obtain ⟨b, eb⟩ : ∃ b, b = H1.next := ⟨_, rfl⟩
      rw [← eb] at e5 ⊢
      generalize H1.push ⟨29, true, [ys]⟩ = H2 at o3 ry2 e5 ⊢
      refine ACalls.mono (sorted_c b ys _ H2 e5 ry2 (by omega)).sc ?_
      rintro x H3 ⟨⟨up3, f3⟩, sc3⟩
      have o4 := o3.call (Ow.of_fr up3 sc3 f3)
      have hx := o4.one 3 rfl
      have zz : zeros 1 [.slice none 0 0] = [.slice none 0 0] := rfl
      have hq1 := cells_of_one hx
      have hq2 := noTuple_of_one hx
      have hq3 := fun r => ok_one (r := r) hx
      refine Holds.mp ?_
      try simp (disch := first | omega | (simp only [ints_length, List.length_replicate, List.length_set, List.length_map] <;> omega)) only [Sall,evalOp,init,binA_s,binE,binI,unE,convE,okNil,builtE,gv,TD.isAgg,resV,↓reduceIte,Nat.reduceEqDiff,reduceCtorEq,Nat.reduceAdd,Nat.reduceMul,Nat.reduceLeDiff,quietOp,blindOp,Int.reduceEq,Int.reduceLT,Int.reduceLE,Nat.reduceLT,tiA,tiXA, hx, h5, hu, zz, hq1, hq2, hq3, slCells]
      (repeat refine And.intro (by omega) ?_)
      try simp (disch := first | omega | (simp only [ints_length, List.length_replicate, List.length_set, List.length_map] <;> omega)) only [Sall,evalOp,init,binA_s,binE,binI,unE,convE,okNil,builtE,gv,TD.isAgg,resV,↓reduceIte,Nat.reduceEqDiff,reduceCtorEq,Nat.reduceAdd,Nat.reduceMul,Nat.reduceLeDiff,quietOp,blindOp,Int.reduceEq,Int.reduceLT,Int.reduceLE,Nat.reduceLT,tiA,tiXA, hx, h5, hu, zz, hq1, hq2, hq3, slCells]
      refine (o4.tmp ⟨29, true, [x]⟩).app 1 (c := 1) (ms := [x]) rfl rfl (by omega) rfl (by omega) (by decide) (by omega) ?_
      intro u' H4 n4 o5
      have o5 : Ow H H4 [.row pi ⟨26, true, [.int .i64 n, .int .i64 g, v]⟩, .sl 1 29 u' (a + 1) (ps.map Prod.fst ++ [x]), .see (RowsP ps), .sl 1 2 x ((l.drop (a * g)).take g).length (ints (sortedL ((l.drop (a * g)).take g)))] := o5
      have o6 := o5.addP 2 3 (x := x) (l := blkL g l a) rfl rfl (by omega) (fun H S hp => by
        have hq := sl_rs hp
        have e : (blkL g l a).length = ((l.drop (a * g)).take g).length := by unfold blkL; exact sortedL_length _
        rw [e]; exact hq)
      have o6 : Ow H H4 ([.row pi ⟨26, true, [.int .i64 n, .int .i64 g, v]⟩, .sl 1 29 u' (a + 1) (ps.map Prod.fst ++ [x]), .see (RowsP (ps ++ [(x, blkL g l a)]))] ++ [.no]) := o6
      have e1' := (o6.rowAt 0 rfl).1
      try simp (disch := first | omega | (simp only [ints_length, List.length_replicate, List.length_set, List.length_map] <;> omega)) only [Sall,evalOp,init,binA_s,binE,binI,unE,convE,okNil,builtE,gv,TD.isAgg,resV,↓reduceIte,Nat.reduceEqDiff,reduceCtorEq,Nat.reduceAdd,Nat.reduceMul,Nat.reduceLeDiff,quietOp,blindOp,Int.reduceEq,Int.reduceLT,Int.reduceLE,Nat.reduceLT,tiA,tiXA, h6, h1, h2, e1', ea, wd3]
      refine ⟨c - (a + 1), by omega, a + 1, u', ps ++ [(x, blkL g l a)], by omega, by omega, ?_, by rw [Nat.succ_mul], rfl, ?_⟩
      · rw [List.map_append, hps, List.range_succ, List.map_append]; rfl
      · rw [List.map_append]
        exact o6.left
    · have hac : a = c := by
        by_cases h : a < c
        · exact absurd (hcn.2 h) hh
        · omega
      rw [hac] at o2 hps
      try simp (disch := first | omega | (simp only [ints_length, List.length_replicate, List.length_set, List.length_map] <;> omega)) only [Sall,evalOp,init,binA_s,binE,binI,unE,convE,okNil,builtE,gv,TD.isAgg,resV,↓reduceIte,Nat.reduceEqDiff,reduceCtorEq,Nat.reduceAdd,Nat.reduceMul,Nat.reduceLeDiff,quietOp,blindOp,Int.reduceEq,Int.reduceLT,Int.reduceLE,Nat.reduceLT,tiA,tiXA, h5]
      have hpl : ps.length = c := by have := congrArg List.length hps; simpa using this
      have hpb : ps.map Prod.snd = blksL g c l := hps
      have hkd : ps.Pairwise fun p q => hdL p.2 ≠ hdL q.2 := by
        have h := blks_nodup (by omega) hn ho
        rw [← hpb, List.pairwise_map] at h
        exact h
      have hbl : ∀ p ∈ ps, p.2.length = g := fun p hp => by
        have h : p.2 ∈ blksL g c l := by rw [← hpb]; exact List.mem_map.2 ⟨p, hp, rfl⟩
        unfold blksL at h
        obtain ⟨t, ht, e⟩ := List.mem_map.1 h
        rw [← e]
        exact blk_len hn ho (List.mem_range.1 ht)
      have hne : ∀ p ∈ ps, 0 < p.2.length := fun p hp => by rw [hbl p hp]; omega
      obtain ⟨ui, _, hui, eu, hrow⟩ := o2.get 1 rfl (by omega)
      subst eu
      refine ACalls.mono (sortLL_c c hc12 ps hpl hkd hne ui c H1 hui (fun Hx hx => o2.seeStab 2 1 rfl rfl (by omega) hx.2.1) hrow) ?_
      rintro r H2 ⟨ps', hp', hst', hS, hrow'⟩
      have o3 := o2.rowNew 1 rfl (vs' := ps'.map Prod.fst) (by rw [List.length_map, List.length_map, hp'.length_eq]) hS.1 hS.2.2 hS.2.1 hrow'
      have hR0 : RowsP ps H2 := o3.sees 2 rfl
      have hR' : RowsP ps' H2 := fun p hp => hR0 p (hp'.subset hp)
      have hG := tid_sorted (by omega) hn ho (G := ps'.map Prod.snd) (by rw [← hpb]; exact hp'.map _) (by rw [List.pairwise_map]; exact hst')
      have hsum : sumL ps' = n := by
        unfold sumL
        rw [hG, tid_len (by omega) hn ho]
      refine Holds.mp ?_
      try simp (disch := first | omega | (simp only [ints_length, List.length_replicate, List.length_set, List.length_map] <;> omega)) only [Sall,evalOp,init,binA_s,binE,binI,unE,convE,okNil,builtE,gv,TD.isAgg,resV,↓reduceIte,Nat.reduceEqDiff,reduceCtorEq,Nat.reduceAdd,Nat.reduceMul,Nat.reduceLeDiff,quietOp,blindOp,Int.reduceEq,Int.reduceLT,Int.reduceLE,Nat.reduceLT,tiA,tiXA, h5]
      refine ACalls.mono (concatI_c c c ui ps' (by rw [hp'.length_eq, hpl]) (by omega) (by rw [hsum]; omega) (fun p hp => hne p (hp'.subset hp)) H2 hrow' hR') ?_
      intro w H3 o4
      have hw := o4.one 0 rfl
      refine Holds.mp ?_
      try simp (disch := first | omega | (simp only [ints_length, List.length_replicate, List.length_set, List.length_map] <;> omega)) only [Sall,evalOp,init,binA_s,binE,binI,unE,convE,okNil,builtE,gv,TD.isAgg,resV,↓reduceIte,Nat.reduceEqDiff,reduceCtorEq,Nat.reduceAdd,Nat.reduceMul,Nat.reduceLeDiff,quietOp,blindOp,Int.reduceEq,Int.reduceLT,Int.reduceLE,Nat.reduceLT,tiA,tiXA, hw]
      rw [hsum, hG] at o4
      exact (o3.call o4).only 3 rfl
theorem TidyRound_c (q g : Int) (v : Value) (R : List (List Int)) (i : Int) (H : AH) (hv : Rg H v R) (hl : R.length ≤ 4194304) (hl2 : ∀ r ∈ R, r.length ≤ 4194304) :
    ACalls Try.prog 14 [.agg #[.int .i64 q, .int .i64 g, v], .int .i64 i] H (fun r H' => ∃ w, r = .tuple #[w, .int .i64 (glC q g R (decide (0 ≤ i ∧ i ≤ (R.length : Int) - 1)))] ∧ Ow H H' [.sl 1 2 w (tidV q g R i).length (ints (tidV q g R i))]) := by
  refine ACalls.wf (by kernel_rfl) fun hs => acalls_of_awp [.tmp 4, .tmp 5] Try.func14 (by kernel_rfl) rfl rfl (Nat.le_of_ble_eq_true rfl) (by kernel_rfl) ?_
  have hone := hv.one
  have o1 := golf_push hs q g v
  try simp (disch := first | omega | (simp only [ints_length, List.length_replicate, List.length_set, List.length_map] <;> omega)) only [Sall,evalOp,init,binA_s,binE,binI,unE,convE,okNil,builtE,gv,TD.isAgg,resV,↓reduceIte,Nat.reduceEqDiff,reduceCtorEq,Nat.reduceAdd,Nat.reduceMul,Nat.reduceLeDiff,quietOp,blindOp,Int.reduceEq,Int.reduceLT,Int.reduceLE,Nat.reduceLT,tiA,tiXA, hone]
  obtain ⟨pi, epi⟩ : ∃ pi, pi = H.next := ⟨_, rfl⟩
  rw [← epi] at o1 ⊢
  generalize H.push ⟨26, true, [.int .i64 q, .int .i64 g, v]⟩ = H1 at o1 ⊢
  have e1 := (o1.rowAt 0 rfl).1
  have hv1 := hv.same (o1.old hs)
  refine draw_id (by kernel_rfl) (by kernel_rfl) ?_
  try simp (disch := first | omega | (simp only [ints_length, List.length_replicate, List.length_set, List.length_map] <;> omega)) only [Sall,evalOp,init,binA_s,binE,binI,unE,convE,okNil,builtE,gv,TD.isAgg,resV,↓reduceIte,Nat.reduceEqDiff,reduceCtorEq,Nat.reduceAdd,Nat.reduceMul,Nat.reduceLeDiff,quietOp,blindOp,Int.reduceEq,Int.reduceLT,Int.reduceLE,Nat.reduceLT,tiA,tiXA, e1, hone]
  refine (hasRound_c q g v R i H1 hv1.rd2 hl).to ?_
  refine ⟨.inr (.inr (LE.refl _)), ?_⟩
  try simp (disch := first | omega | (simp only [ints_length, List.length_replicate, List.length_set, List.length_map] <;> omega)) only [Sall,evalOp,init,binA_s,binE,binI,unE,convE,okNil,builtE,gv,TD.isAgg,resV,↓reduceIte,Nat.reduceEqDiff,reduceCtorEq,Nat.reduceAdd,Nat.reduceMul,Nat.reduceLeDiff,quietOp,blindOp,Int.reduceEq,Int.reduceLT,Int.reduceLE,Nat.reduceLT,tiA,tiXA, e1, hone]
  refine (golfCode_c q g v R _ H1 hv1.rd2 hl hl2).to ?_
  refine ⟨.inr (.inr (LE.refl _)), ?_⟩
  try simp (disch := first | omega | (simp only [ints_length, List.length_replicate, List.length_set, List.length_map] <;> omega)) only [Sall,evalOp,init,binA_s,binE,binI,unE,convE,okNil,builtE,gv,TD.isAgg,resV,↓reduceIte,Nat.reduceEqDiff,reduceCtorEq,Nat.reduceAdd,Nat.reduceMul,Nat.reduceLeDiff,quietOp,blindOp,Int.reduceEq,Int.reduceLT,Int.reduceLE,Nat.reduceLT,tiA,tiXA, true_and]
  by_cases hz : glC q g R (decide (0 ≤ i ∧ i ≤ (R.length : Int) - 1)) = 0
  · obtain ⟨hE, hD⟩ := glC_yes hz
    rw [decide_eq_true_iff] at hD
    have e3 : ((0 : Int) != 0) = false := rfl
    have eV : tidV q g R i = tidF g.toNat (R.getD i.toNat []) q.toNat := by unfold tidV; rw [if_pos ⟨hE, hD⟩]
    rw [hz, eV]
    obtain ⟨n, gN, c, rfl, rfl, q0, q1, q2, q3, q4, q5, q6, q7⟩ := golfB_at hE
    obtain ⟨iN, rfl⟩ : ∃ iN : Nat, i = iN := ⟨i.toNat, by omega⟩
    simp only [Int.toNat_natCast]
    obtain ⟨vi, vo, vu, vc, vr, y, ev, v1, v2, v3, v4⟩ := hv1.get (j := iN) (by omega)
    have ho := q7 iN (by omega)
    have hol := ((ordB_iff n _).1 ho).1
    rw [hol] at v3
    have htl := tid_len (by omega) q0 ho
    try simp (disch := first | omega | (simp only [ints_length, List.length_replicate, List.length_set, List.length_map] <;> omega)) only [Sall,evalOp,init,binA_s,binE,binI,unE,convE,okNil,builtE,gv,TD.isAgg,resV,↓reduceIte,Nat.reduceEqDiff,reduceCtorEq,Nat.reduceAdd,Nat.reduceMul,Nat.reduceLeDiff,quietOp,blindOp,Int.reduceEq,Int.reduceLT,Int.reduceLE,Nat.reduceLT,tiA,tiXA, e3]
    refine draw_id (by kernel_rfl) (by kernel_rfl) ?_
    try simp (disch := first | omega | (simp only [ints_length, List.length_replicate, List.length_set, List.length_map] <;> omega)) only [Sall,evalOp,init,binA_s,binE,binI,unE,convE,okNil,builtE,gv,TD.isAgg,resV,↓reduceIte,Nat.reduceEqDiff,reduceCtorEq,Nat.reduceAdd,Nat.reduceMul,Nat.reduceLeDiff,quietOp,blindOp,Int.reduceEq,Int.reduceLT,Int.reduceLE,Nat.reduceLT,tiA,tiXA, e1, hone, ev, v1, v2, v4]
    (repeat refine And.intro (by omega) ?_)
    try simp (disch := first | omega | (simp only [ints_length, List.length_replicate, List.length_set, List.length_map] <;> omega)) only [Sall,evalOp,init,binA_s,binE,binI,unE,convE,okNil,builtE,gv,TD.isAgg,resV,↓reduceIte,Nat.reduceEqDiff,reduceCtorEq,Nat.reduceAdd,Nat.reduceMul,Nat.reduceLeDiff,quietOp,blindOp,Int.reduceEq,Int.reduceLT,Int.reduceLE,Nat.reduceLT,tiA,tiXA, e1, hone, ev, v1, v2, v4]
    rw [← ev]
    refine ACalls.mono (tidy_c n gN c q1 q0 q2 q4 q5 v y _ H1 hone v3 ho) ?_
    intro w H3 o3
    have hw := o3.one 0 rfl
    refine ⟨.inr (.inr (o3.up.le o1.sc)), ?_⟩
    try simp (disch := first | omega | (simp only [ints_length, List.length_replicate, List.length_set, List.length_map] <;> omega)) only [Sall,evalOp,init,binA_s,binE,binI,unE,convE,okNil,builtE,gv,TD.isAgg,resV,↓reduceIte,Nat.reduceEqDiff,reduceCtorEq,Nat.reduceAdd,Nat.reduceMul,Nat.reduceLeDiff,quietOp,blindOp,Int.reduceEq,Int.reduceLT,Int.reduceLE,Nat.reduceLT,tiA,tiXA, hw]
    refine ⟨w, rfl, ?_⟩
    rw [htl]
    exact (o1.call o3).only 1 rfl
  · have e3 : (glC q g R (decide (0 ≤ i ∧ i ≤ (R.length : Int) - 1)) != 0) = true := bne_iff_ne.2 hz
    have eV : tidV q g R i = [] := by
      unfold tidV
      rw [if_neg]
      rintro ⟨h1, h2⟩
      apply hz
      unfold glC
      rw [if_pos h1, decide_eq_true h2]; rfl
    rw [eV]
    try simp (disch := first | omega | (simp only [ints_length, List.length_replicate, List.length_set, List.length_map] <;> omega)) only [Sall,evalOp,init,binA_s,binE,binI,unE,convE,okNil,builtE,gv,TD.isAgg,resV,↓reduceIte,Nat.reduceEqDiff,reduceCtorEq,Nat.reduceAdd,Nat.reduceMul,Nat.reduceLeDiff,quietOp,blindOp,Int.reduceEq,Int.reduceLT,Int.reduceLE,Nat.reduceLT,tiA,tiXA, e3]
    exact ⟨_, rfl, (Ow.left (L := []) o1 |>.addNil 1 2)⟩
end Go.Proofs.Ytpienljnoaendaa.A
end

section
namespace Go.Abs
def sumG (f : Nat → Nat) : Nat → Nat
  | 0 => 0
  | n + 1 => sumG f n + f n
theorem sumG_range (f : Nat → Nat) : ∀ n, ((List.range n).map f).sum = sumG f n
  | 0 => rfl
  | n + 1 => by rw [List.range_succ, List.map_append, List.sum_append, sumG_range f n]; simp [sumG]
theorem sumG_add (f h : Nat → Nat) : ∀ n, sumG (fun i => f i + h i) n = sumG f n + sumG h n
  | 0 => rfl
  | n + 1 => by show sumG (fun i => f i + h i) n + (f n + h n) = sumG f n + f n + (sumG h n + h n); rw [sumG_add f h n]; omega
theorem sumG_congr {f h : Nat → Nat} : ∀ n, (∀ i, i < n → f i = h i) → sumG f n = sumG h n
  | 0, _ => rfl
  | n + 1, e => by show sumG f n + f n = sumG h n + h n; rw [sumG_congr n fun i hi => e i (by omega), e n (by omega)]
theorem sumG_zero {f : Nat → Nat} : ∀ n, (∀ i, i < n → f i = 0) → sumG f n = 0
  | 0, _ => rfl
  | n + 1, e => by show sumG f n + f n = 0; rw [sumG_zero n fun i hi => e i (by omega), e n (by omega)]
theorem sumG_perm (f : Nat → Nat) {n : Nat} {L : List Nat} (h : L.Perm (List.range n)) : (L.map f).sum = sumG f n := by
  rw [← sumG_range]
  exact (h.map f).sum_nat
theorem sum_int (f : Nat → Nat) : ∀ n, ((List.range n).map fun b => ((f b : Nat) : Int)).sum = ((sumG f n : Nat) : Int)
  | 0 => rfl
  | n + 1 => by rw [List.range_succ, List.map_append, List.sum_append, sum_int f n]; simp [sumG]
theorem count_map_onG {α β : Type} [BEq α] [LawfulBEq α] [BEq β] [LawfulBEq β] {f : α → β} {P : α → Prop} (hf : ∀ x z, P x → P z → f x = f z → x = z) {a : α} (ha : P a) : ∀ (L : List α), (∀ x ∈ L, P x) → (L.map f).count (f a) = L.count a
  | [], _ => rfl
  | x :: L, h => by
    rw [List.map_cons, List.count_cons, List.count_cons, count_map_onG hf ha L fun z hz => h z (List.mem_cons_of_mem _ hz)]
    congr 1
    by_cases e : x = a
    · subst e; simp
    · have : ¬ f x = f a := fun e2 => e (hf x a (h x List.mem_cons_self) ha e2)
      simp [e, this]
theorem pgS_lt {g c n : Nat} (hg : 0 < g) (hn : n = g * c) : ∀ p ∈ pgS g n, p.1 < n ∧ p.2 < n := by
  rintro ⟨x, y⟩ hp
  have h := List.count_pos_iff.2 hp
  rw [cntPS] at h
  split at h
  · rename_i h1
    obtain ⟨h2, h3, h4, h5⟩ := h1
    have h6 := (div_block hg).1 ⟨h4, h5⟩
    refine ⟨h2, ?_⟩
    have hlt : ∀ z, z < n ↔ z / g < c := fun z => by rw [hn, Nat.div_lt_iff_lt_mul hg, Nat.mul_comm]
    show y < n
    rw [hlt, h6, ← hlt]; exact h2
  · omega
theorem round_cnt {n g c : Nat} (hg : 0 < g) (hn : n = g * c) {l : List Int} (ho : ordB n l = true) {a b : Nat} (ha : a < n) (hb : b < n) : (gxL n l (pgS g n)).count (ixN n (l.getD a 0).toNat (l.getD b 0).toNat) = if b ≠ a ∧ b / g = a / g then 1 else 0 := by
  obtain ⟨l1, l2, l3⟩ := (ordB_iff n l).1 ho
  have hlt : ∀ i, i < n → 0 ≤ l.getD i 0 ∧ l.getD i 0 < n := fun i hi => l2 _ (getD_memI (by omega))
  have hinj : ∀ i j, i < n → j < n → (l.getD i 0).toNat = (l.getD j 0).toNat → i = j := fun i j hi hj e => by
    apply Classical.byContradiction
    intro hne
    have h1 := hlt i hi
    have h2 := hlt j hj
    exact getD_ne l3 (by omega) (by omega) hne (by omega)
  unfold gxL
  rw [show ixN n (l.getD a 0).toNat (l.getD b 0).toNat = (fun p : Nat × Nat => ixN n (l.getD p.1 0).toNat (l.getD p.2 0).toNat) (a, b) from rfl]
  rw [count_map_onG (f := fun p : Nat × Nat => ixN n (l.getD p.1 0).toNat (l.getD p.2 0).toNat) (P := fun p : Nat × Nat => p.1 < n ∧ p.2 < n) ?_ ⟨ha, hb⟩ _ (pgS_lt hg hn), cntPS]
  · have h := div_block (x := a) (y := b) hg
    congr 1
    refine propext ⟨fun ⟨h1, h2, h3⟩ => ⟨h2, h.1 h3⟩, fun ⟨h1, h2⟩ => ⟨ha, h1, h.2 h2⟩⟩
  · rintro ⟨x, y⟩ ⟨z, w⟩ ⟨h1, h2⟩ ⟨h3, h4⟩ e
    have h5 := hlt y h2
    have h6 := hlt w h4
    obtain ⟨e1, e2⟩ := (ixN_eq (a := (l.getD x 0).toNat) (x := (l.getD z 0).toNat) (b := (l.getD y 0).toNat) (y := (l.getD w 0).toNat) (by omega) (by omega)).1 e
    exact Prod.ext (hinj _ _ h1 h3 e1) (hinj _ _ h2 h4 e2)
theorem blk_sum {A g a : Nat} (h1 : A ≤ a) (h2 : a < A + g) : ∀ m, sumG (fun b => if b ≠ a ∧ (A ≤ b ∧ b < A + g) then 1 else 0) m = (min m (A + g) - min m A) - (if a < m then 1 else 0)
  | 0 => by simp [sumG]
  | m + 1 => by
    show sumG _ m + _ = _
    rw [blk_sum h1 h2 m]
    dsimp only
    by_cases c1 : m < A
    · rw [if_neg (show ¬ a < m by omega), if_neg (show ¬ a < m + 1 by omega), if_neg (by omega)]; omega
    · by_cases c2 : m < A + g
      · by_cases c3 : m = a
        · rw [if_neg (show ¬ a < m by omega), if_pos (show a < m + 1 by omega), if_neg (by omega)]; omega
        · by_cases c4 : a < m
          · rw [if_pos c4, if_pos (show a < m + 1 by omega), if_pos ⟨c3, by omega, by omega⟩]; omega
          · rw [if_neg c4, if_neg (show ¬ a < m + 1 by omega), if_pos ⟨c3, by omega, by omega⟩]; omega
      · rw [if_pos (show a < m by omega), if_pos (show a < m + 1 by omega), if_neg (by omega)]; omega
theorem round_sum {n g c : Nat} (hg : 0 < g) (hn : n = g * c) {l : List Int} (ho : ordB n l = true) {x : Nat} (hx : x < n) : sumG (fun y => (gxL n l (pgS g n)).count (ixN n x y)) n = g - 1 := by
  obtain ⟨a, ha, e⟩ := ord_has ho (a := (x : Int)) (by omega)
  have ex : x = (l.getD a 0).toNat := by omega
  rw [← sumG_perm _ (order_map ho), List.map_map]
  rw [sumG_range]
  rw [sumG_congr (h := fun b => if b ≠ a ∧ (a / g * g ≤ b ∧ b < a / g * g + g) then 1 else 0) n fun b hb => by
    show (gxL n l (pgS g n)).count (ixN n x (l.getD b 0).toNat) = _
    rw [ex, round_cnt hg hn ho ha hb]
    have h := div_block (x := a) (y := b) hg
    congr 1
    refine propext ⟨fun ⟨h1, h2⟩ => ⟨h1, h.2 h2⟩, fun ⟨h1, h2⟩ => ⟨h1, h.1 h2⟩⟩]
  obtain ⟨h1, h2⟩ := (div_block (x := a) (y := a) hg).2 rfl
  rw [blk_sum h1 h2, if_pos ha]
  have h3 : a / g < c := by rw [Nat.div_lt_iff_lt_mul hg, Nat.mul_comm, ← hn]; exact ha
  have h4 : (a / g + 1) * g ≤ c * g := Nat.mul_le_mul_right g h3
  rw [Nat.succ_mul, Nat.mul_comm c g, ← hn] at h4
  generalize a / g * g = A at *
  omega
theorem gxS_cnt {n g : Nat} (R : List (List Int)) (z : Int) (r : Nat) : (gxS n g R (r + 1)).count z = (gxS n g R r).count z + (gxL n (R.getD r []) (pgS g n)).count z := by rw [gxS_succ, List.count_append]
theorem gx_sum {n g c : Nat} (hg : 0 < g) (hn : n = g * c) {R : List (List Int)} {x : Nat} (hx : x < n) : ∀ r, (∀ i, i < r → ordB n (R.getD i []) = true) → sumG (fun y => (gxS n g R r).count (ixN n x y)) n = r * (g - 1)
  | 0, _ => by rw [sumG_zero _ fun i _ => by simp [gxS], Nat.zero_mul]
  | r + 1, h => by
    rw [sumG_congr n fun y _ => gxS_cnt R (ixN n x y) r, sumG_add, gx_sum hg hn hx r fun i hi => h i (by omega), round_sum hg hn (h r (by omega)) hx, Nat.succ_mul]
theorem round_at {n g c : Nat} (hg : 0 < g) (hn : n = g * c) {l : List Int} (ho : ordB n l = true) {x y : Nat} (hx : x < n) (hy : y < n) : ∃ a b, a < n ∧ b < n ∧ l.getD a 0 = (x : Int) ∧ l.getD b 0 = (y : Int) ∧ (gxL n l (pgS g n)).count (ixN n x y) = if b ≠ a ∧ b / g = a / g then 1 else 0 := by
  obtain ⟨a, ha, e⟩ := ord_has ho (a := (x : Int)) (by omega)
  obtain ⟨b, hb, e2⟩ := ord_has ho (a := (y : Int)) (by omega)
  refine ⟨a, b, ha, hb, e, e2, ?_⟩
  have h := round_cnt hg hn ho ha hb
  rw [e, e2, Int.toNat_natCast, Int.toNat_natCast] at h
  exact h
theorem ord_same {n : Nat} {l : List Int} (ho : ordB n l = true) {a b : Nat} (ha : a < n) (hb : b < n) (e : l.getD a 0 = l.getD b 0) : a = b := by
  obtain ⟨l1, l2, l3⟩ := (ordB_iff n l).1 ho
  apply Classical.byContradiction
  intro hne
  exact getD_ne l3 (by omega) (by omega) hne e
theorem gx_sym {n g c : Nat} (hg : 0 < g) (hn : n = g * c) {R : List (List Int)} {x y : Nat} (hx : x < n) (hy : y < n) : ∀ r, (∀ i, i < r → ordB n (R.getD i []) = true) → (gxS n g R r).count (ixN n x y) = (gxS n g R r).count (ixN n y x)
  | 0, _ => by simp [gxS]
  | r + 1, h => by
    rw [gxS_cnt, gxS_cnt, gx_sym hg hn hx hy r fun i hi => h i (by omega)]
    have ho := h r (by omega)
    obtain ⟨a, b, ha, hb, e1, e2, e3⟩ := round_at hg hn ho hx hy
    obtain ⟨b', a', hb', ha', e4, e5, e6⟩ := round_at hg hn ho hy hx
    obtain rfl := ord_same ho ha ha' (e1.trans e5.symm)
    obtain rfl := ord_same ho hb hb' (e2.trans e4.symm)
    rw [e3, e6]
    congr 2
    exact propext ⟨fun ⟨h1, h2⟩ => ⟨fun e => h1 e.symm, h2.symm⟩, fun ⟨h1, h2⟩ => ⟨fun e => h1 e.symm, h2.symm⟩⟩
theorem gx_diag {n g c : Nat} (hg : 0 < g) (hn : n = g * c) {R : List (List Int)} {x : Nat} (hx : x < n) : ∀ r, (∀ i, i < r → ordB n (R.getD i []) = true) → (gxS n g R r).count (ixN n x x) = 0
  | 0, _ => by simp [gxS]
  | r + 1, h => by
    rw [gxS_cnt, gx_diag hg hn hx r fun i hi => h i (by omega)]
    have ho := h r (by omega)
    obtain ⟨a, b, ha, hb, e1, e2, e3⟩ := round_at hg hn ho hx hx
    obtain rfl := ord_same ho ha hb (e1.trans e2.symm)
    rw [e3, if_neg (fun h => h.1 rfl)]
theorem gx_mono {n g : Nat} {R : List (List Int)} {z : Int} {i : Nat} : ∀ r, i < r → (gxL n (R.getD i []) (pgS g n)).count z ≤ (gxS n g R r).count z
  | 0, h => by omega
  | r + 1, h => by
    rw [gxS_cnt]
    by_cases e : i = r
    · rw [e]; omega
    · have := gx_mono (n := n) (g := g) (R := R) (z := z) r (by omega : i < r); omega
theorem grp_met {n g c : Nat} (hg : 0 < g) (hn : n = g * c) {R : List (List Int)} {i : Nat} (hi : i < R.length) (h : ∀ i, i < R.length → ordB n (R.getD i []) = true) {x : Nat} (hx : x < n) {z : Int} (hz : z ∈ grpL g (R.getD i []) (x : Int)) : ∃ y : Nat, y < n ∧ z = y ∧ (y = x ∨ 0 < ((gmM n g R).getD x []).getD y 0) := by
  have ho := h i hi
  obtain ⟨t, ht, e1, e2⟩ := grp_own hg hn ho (a := (x : Int)) (by omega)
  rw [e1] at hz e2
  obtain ⟨a, ha, ha2, ea⟩ := (blk_mem hg hn ho).1 e2
  obtain ⟨b, hb, hb2, eb⟩ := (blk_mem hg hn ho).1 hz
  have hzr := ((ordB_iff n _).1 ho).2.1 _ (getD_memI (l := R.getD i []) (i := b) (by rw [((ordB_iff n _).1 ho).1]; exact hb))
  obtain ⟨y, rfl⟩ : ∃ y : Nat, z = y := ⟨z.toNat, by omega⟩
  refine ⟨y, by omega, rfl, ?_⟩
  by_cases e : b = a
  · left
    rw [e] at eb
    omega
  · right
    unfold gmM
    rw [cntMx_at _ _ _ _ hx (by omega)]
    have h1 := round_cnt hg hn ho ha hb
    rw [ea, eb, Int.toNat_natCast, Int.toNat_natCast, if_pos ⟨e, by omega⟩] at h1
    have h2 := gx_mono (n := n) (g := g) (R := R) (z := ixN n x y) R.length hi
    omega
theorem mem_nmL {M : List (List Int)} {a : Nat} {z : Int} : ∀ b, z ∈ nmL M a b ↔ ∃ y : Nat, y < b ∧ z = y ∧ y ≠ a ∧ (M.getD a []).getD y 0 = 0
  | 0 => by simp [nmL]
  | b + 1 => by
    unfold nmL
    rw [List.mem_append, mem_nmL b]
    constructor
    · rintro (⟨y, h1, h2⟩ | h)
      · exact ⟨y, by omega, h2⟩
      · split at h
        · rename_i h2
          rw [List.mem_singleton] at h
          exact ⟨b, by omega, h, h2⟩
        · simp at h
    · rintro ⟨y, h1, h2, h3, h4⟩
      by_cases e : y = b
      · right
        rw [if_pos ⟨by rw [← e]; exact h3, by rw [← e]; exact h4⟩, h2, e]
        simp
      · exact .inl ⟨y, by omega, h2, h3, h4⟩
theorem gmM_facts {n g c : Nat} (hg : 2 ≤ g) (hn : n = g * c) (hn25 : n ≤ 25) {R : List (List Int)} (hl : R.length ≤ 12) (h : ∀ i, i < R.length → ordB n (R.getD i []) = true) {a : Nat} (ha : a < n) : ((gmM n g R).getD a []).sum = ((R.length * (g - 1) : Nat) : Int) ∧ ((gmM n g R).getD a []).getD a 0 = 0 ∧ ((gmM n g R).getD a []).length = n ∧ (∀ z ∈ (gmM n g R).getD a [], 0 ≤ z ∧ z ≤ 1000000) ∧ ∀ b, b < n → ((gmM n g R).getD a []).getD b 0 = ((gmM n g R).getD b []).getD a 0 := by
  unfold gmM
  refine ⟨?_, ?_, ?_, ?_, fun b hb => ?_⟩
  · rw [cntMx_row _ _ _ ha, sum_int, gx_sum (by omega) hn ha _ h]
  · rw [cntMx_at _ _ _ _ ha ha, gx_diag (by omega) hn ha _ h]; rfl
  · rw [cntMx_row _ _ _ ha]; simp
  · intro z hz
    rw [cntMx_row _ _ _ ha] at hz
    obtain ⟨b, _, rfl⟩ := List.mem_map.1 hz
    have h1 := gxS_length (n := n) (g := g) R R.length
    have h2 : (gxS n g R R.length).count (ixN n a b) ≤ (gxS n g R R.length).length := List.count_le_length
    have h3 : g ≤ 25 := by
      have : g * 1 ≤ g * c := Nat.mul_le_mul_left g (by rcases c with _ | c <;> omega)
      omega
    have h4 : R.length * (n * g) ≤ 12 * (25 * 25) := Nat.mul_le_mul hl (Nat.mul_le_mul hn25 h3)
    omega
  · rw [cntMx_at _ _ _ _ ha hb, cntMx_at _ _ _ _ hb ha, gx_sym (by omega) hn ha hb _ h]
end Go.Abs
end
