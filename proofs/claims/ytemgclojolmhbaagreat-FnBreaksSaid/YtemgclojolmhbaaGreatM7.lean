/- Draws of home and away: a schedule with venues, and what the statements draw of it. And what follows. -/
import Derived.Test.YtemgclojolmhbaaGreatM6
set_option linter.unusedSimpArgs false
set_option linter.unusedVariables false
section
set_option maxRecDepth 100000
set_option maxHeartbeats 4000000
namespace Go.Proofs.YtemgclojolmhbaaGreat.A
open Go Go.Abs Go.RowKit
def WithV (H : AH) (p : (Int × Value) × Value) (H' : AH) : Prop :=
  ∃ (k : Nat) (l : List Int) (ll : List (List Int)), (-1 ≤ p.1.1 ∧ p.1.1 ≤ 15) ∧ k ≤ 41 ∧ (∀ x, x ∈ l → -1 ≤ x ∧ x ≤ 14) ∧ VbL ll ∧ (∀ H2, (∀ i r, H.next ≤ i → H'.row i = some r → H2.row i = some r) → Rd 14 H2 p.1.2 k l ∧ Rd2 1 H2 p.2 ll) ∧ Ow H H' []
def Nr (x : Int) : Prop := -4611686018427387904 ≤ x ∧ x ≤ 1099511627776
theorem zg1 (cv : Value) (nb : Nat) (H : AH) (hnb : nb ≤ 4611686018427387904) (hc0 : CodeOk H cv nb) :
    ACalls Tryz.prog 70 [cv] H (fun r H' => ∃ (p : (Int × Value) × Value) (i a b : Int), r = .tuple #[.agg #[.int .i64 p.1.1, p.1.2], p.2, .int .i64 i, .int .i64 a, .int .i64 b] ∧ (Nr i ∧ Nr a ∧ Nr b) ∧ WithV H p H') := by
  refine ACalls.wf (by kernel_rfl) fun hsc0 => za3 [.cell 2 26, .tmp 3, .tmp 4, .tmp 5, .tmp 6] Tryz.func70 (by kernel_rfl) rfl rfl (Nat.le_of_ble_eq_true rfl) (by kernel_rfl) ?_
  refine zi3 (fun t H' => ∃ (n k ri : Nat) (u : Value) (l : List Int) (H1 H2 : AH), t 2 = .pointer (some ⟨H.next, 0, none⟩) ∧ t 7 = .pointer (some ⟨H1.next, 0, none⟩) ∧ t 8 = .pointer (some ⟨ri, 0, none⟩) ∧ (2 ≤ n ∧ n ≤ 14) ∧ k ≤ 40 ∧ VL n l ∧
    Ow H H1 [.row H.next ⟨26, true, [.int .i64 0, .slice none 0 0]⟩] ∧ Up H1.next H1 H2 ∧ Sc H2 ∧ H1.next < H2.next ∧ CodeX cv nb H1.next H2 ∧ Src cv nb H1.next H2 ∧
    Dq cv nb H1.next H2 H' [.cap 14 67 u k (ints l), .row ri ⟨26, true, [.int .i64 n, u]⟩]) ?_ ?_
  · have o1 := (Ow.refl hsc0).push ⟨26, true, [.int .i64 0, .slice none 0 0]⟩
    have hone := hc0.one
    have hb : ∀ (t : T) (H : AH), evalOp Tryz.prog t H (.buildSlice 33 4 #[(0, .const (.int .i64 4)), (1, .const (.int .i64 6)), (2, .const (.int .i64 8)), (3, .const (.int .i64 10))]) = .need (4 ≤ 16777216 ∧ 4 * 1 ≤ 16777216) (.val (.slice (some ⟨H.next, 0, some 1⟩) 4 4) (H.push ⟨2, true, ints [4, 6, 8, 10]⟩)) := fun t H => by kernel_rfl
    generalize (Op.buildSlice 33 4 #[(0, .const (.int .i64 4)), (1, .const (.int .i64 6)), (2, .const (.int .i64 8)), (3, .const (.int .i64 10))]) = bop at hb ⊢
    simp (config := {maxSteps := 3000000}) (disch := first | omega | (simp only [L3] <;> omega)) only [Sall,evalOp,init,binA_s,binE,binI,unE,convE,okNil,builtE,gv,TD.isAgg,resV,↓reduceIte,Nat.reduceEqDiff,reduceCtorEq,Nat.reduceAdd,Nat.reduceMul,Nat.reduceLeDiff,za0,za2,Int.reduceEq,Int.reduceLT,Int.reduceLE,Nat.reduceLT,tiA,tiXA, ↓hb, hone]
    generalize H.push ⟨26, true, [.int .i64 0, .slice none 0 0]⟩ = H1 at o1 ⊢
    have hc1 : CodeOk H1 cv nb := codeUp hc0 (o1.old hsc0)
    refine (ze3 cv nb H1 hnb hc1).fin ?_
    rintro H2 ⟨up2, hsc, hsi, hs⟩
    have hc := CodeX.of hc1 o1.sc up2
    have d0 := Dq.start hs hsc
    refine Holds.mp ?_
    simp (config := {maxSteps := 3000000}) (disch := first | omega | (simp only [L3] <;> omega)) only [Sall,evalOp,init,binA_s,binE,binI,unE,convE,okNil,builtE,gv,TD.isAgg,resV,↓reduceIte,Nat.reduceEqDiff,reduceCtorEq,Nat.reduceAdd,Nat.reduceMul,Nat.reduceLeDiff,za0,za2,Int.reduceEq,Int.reduceLT,Int.reduceLE,Nat.reduceLT,tiA,tiXA, ↓hb]
    refine ACalls.ex4 (g := fun n _ u _ => .agg #[.int .i64 (n : Nat), u]) (zhR cv nb H1.next H2 hnb (d0.src hsi) (d0.code hc hsc)) ?_
    rintro n k u l H3 ⟨hn, hk, hV, e2⟩
    have d1 := d0.bind hsi e2
    have hu := d1.capOne 0 rfl
    have d2 := (d1.push ⟨26, true, [.int .i64 0, .slice none 0 0]⟩).putRow 1 rfl (cs' := [.int .i64 n, u])
    refine Holds.mp ?_
    simp (config := {maxSteps := 3000000}) (disch := first | omega | (simp only [L3] <;> omega)) only [Sall,evalOp,init,binA_s,binE,binI,unE,convE,okNil,builtE,gv,TD.isAgg,resV,↓reduceIte,Nat.reduceEqDiff,reduceCtorEq,Nat.reduceAdd,Nat.reduceMul,Nat.reduceLeDiff,za0,za2,Int.reduceEq,Int.reduceLT,Int.reduceLE,Nat.reduceLT,tiA,tiXA, ↓hb, hu]
    obtain ⟨ri, eri⟩ : ∃ ri, ri = H3.next := ⟨_, rfl⟩
    have nri : ¬ ri = H1.next := by have := d1.le; omega
    rw [← eri] at d2 ⊢
    generalize (H3.push ⟨26, true, [.int .i64 0, .slice none 0 0]⟩).setCells ri [.int .i64 n, u] = H5 at d2 ⊢
    refine (nextD 4 d2 hsi hc hsc hnb (by omega)).ex ?_
    rintro y H6 ⟨hy, d4⟩
    have d4 : Dq cv nb H1.next H2 H6 [.cap 14 67 u k (ints l), .row ri ⟨26, true, [.int .i64 n, u]⟩] := d4
    refine Holds.mp ?_
    by_cases c0 : (y : Int) = 0
    rotate_left
    · have f0 : ((y : Int) == 0) = false := beq_eq_false_iff_ne.2 c0
      simp (config := {maxSteps := 3000000}) (disch := first | omega | (simp only [L3] <;> omega)) only [Sall,evalOp,init,binA_s,binE,binI,unE,convE,okNil,builtE,gv,TD.isAgg,resV,↓reduceIte,Nat.reduceEqDiff,reduceCtorEq,Nat.reduceAdd,Nat.reduceMul,Nat.reduceLeDiff,za0,za2,Int.reduceEq,Int.reduceLT,Int.reduceLE,Nat.reduceLT,tiA,tiXA, f0]
      refine ⟨n, k, ri, u, l, H1, H2, ?_⟩
      simp (config := {maxSteps := 3000000}) (disch := first | omega | (simp only [L3] <;> omega)) only [Sall,evalOp,init,binA_s,binE,binI,unE,convE,okNil,builtE,gv,TD.isAgg,resV,↓reduceIte,Nat.reduceEqDiff,reduceCtorEq,Nat.reduceAdd,Nat.reduceMul,Nat.reduceLeDiff,za0,za2,Int.reduceEq,Int.reduceLT,Int.reduceLE,Nat.reduceLT,tiA,tiXA, true_and]
      exact ⟨hn, hk, hV, o1, up2, hsc, hsi, hc, hs, d4⟩
    have f0 : ((y : Int) == 0) = true := beq_iff_eq.2 c0
    simp (config := {maxSteps := 3000000}) (disch := first | omega | (simp only [L3] <;> omega)) only [Sall,evalOp,init,binA_s,binE,binI,unE,convE,okNil,builtE,gv,TD.isAgg,resV,↓reduceIte,Nat.reduceEqDiff,reduceCtorEq,Nat.reduceAdd,Nat.reduceMul,Nat.reduceLeDiff,za0,za2,Int.reduceEq,Int.reduceLT,Int.reduceLE,Nat.reduceLT,tiA,tiXA, ↓hb, f0]
    refine (pickL [4, 6, 8, 10] 4 rfl (by omega) (by omega) d4 hsi hc hsc hnb).ex ?_
    rintro x H7 ⟨hx, d5⟩
    have hx2 : 4 ≤ x ∧ x ≤ 10 := by
      simp only [List.mem_cons, List.not_mem_nil, or_false] at hx
      omega
    obtain ⟨m, rfl⟩ : ∃ m : Nat, x = m := ⟨x.toNat, by omega⟩
    have hm : 2 ≤ m ∧ m ≤ 14 := by omega
    refine Holds.mp ?_
    simp (config := {maxSteps := 3000000}) (disch := first | omega | (simp only [L3] <;> omega)) only [Sall,evalOp,init,binA_s,binE,binI,unE,convE,okNil,builtE,gv,TD.isAgg,resV,↓reduceIte,Nat.reduceEqDiff,reduceCtorEq,Nat.reduceAdd,Nat.reduceMul,Nat.reduceLeDiff,za0,za2,Int.reduceEq,Int.reduceLT,Int.reduceLE,Nat.reduceLT,tiA,tiXA, true_and]
    refine (ACalls.scz (zdE m hm H7)).ex ?_
    rintro w H8 ⟨⟨up3, fr3⟩, sc3⟩
    have o3 := Ow.of_fr up3 sc3 fr3
    have hw := o3.one 0 rfl
    have d6 := (d5.calls o3).toCap 2 rfl
    have g1 := d6.rowAt 1 rfl
    have hV := zfX hm
    have hk : 1 ≤ oddUp m ∧ oddUp m ≤ 13 := by unfold oddUp; omega
    refine Holds.mp ?_
    simp (config := {maxSteps := 3000000}) (disch := first | omega | (simp only [L3] <;> omega)) only [Sall,evalOp,init,binA_s,binE,binI,unE,convE,okNil,builtE,gv,TD.isAgg,resV,↓reduceIte,Nat.reduceEqDiff,reduceCtorEq,Nat.reduceAdd,Nat.reduceMul,Nat.reduceLeDiff,za0,za2,Int.reduceEq,Int.reduceLT,Int.reduceLE,Nat.reduceLT,tiA,tiXA, g1, hw]
    refine ⟨m, oddUp m, ri, w, zaW m (oddUp m), H1, H2, ?_⟩
    simp (config := {maxSteps := 3000000}) (disch := first | omega | (simp only [L3] <;> omega)) only [Sall,evalOp,init,binA_s,binE,binI,unE,convE,okNil,builtE,gv,TD.isAgg,resV,↓reduceIte,Nat.reduceEqDiff,reduceCtorEq,Nat.reduceAdd,Nat.reduceMul,Nat.reduceLeDiff,za0,za2,Int.reduceEq,Int.reduceLT,Int.reduceLE,Nat.reduceLT,tiA,tiXA, true_and]
    exact ⟨hm, by omega, hV, o1, up2, hsc, hsi, hc, hs, (d6.putRow 1 rfl).map fun B o => Ow.three o⟩
  · rintro t H3 ⟨n, k, ri, u, l, H1, H2, h2, h7, h8, hn, hk, hV, o1, up2, hsc, hsi, hc, hs, d1⟩
    have g1 := d1.rowAt 1 rfl
    have hu := d1.capOne 0 rfl
    have hlu := (d1.capRs 0 rfl).rd.len
    try simp (disch := first | omega | (simp only [L3] <;> omega)) only [Sall,evalOp,init,binA_s,binE,binI,unE,convE,okNil,builtE,gv,TD.isAgg,resV,↓reduceIte,Nat.reduceEqDiff,reduceCtorEq,Nat.reduceAdd,Nat.reduceMul,Nat.reduceLeDiff,za0,za2,Int.reduceEq,Int.reduceLT,Int.reduceLE,Nat.reduceLT,tiA,tiXA, h7, h8, g1, hu]
    refine (zd4 cv nb H1.next n k u l H3 hn hk hV (d1.rsx hsi 0 rfl) hnb (d1.src hsi) (d1.code hc hsc)).mono ?_
    rintro w H4 ⟨ll, hVn, _, e4⟩
    have d2 := d1.bind hsi e4
    have hw := (d2.rd2 2 rfl).one
    have g2 := d2.rowAt 1 rfl
    have d2 : Dq cv nb H1.next H2 H4 [.cap 14 67 u k (ints l), .row ri ⟨26, true, [.int .i64 n, u]⟩, .see (Rd2 1 · w ll)] := d2.map fun B o => o.toSee 2 rfl fun H S hp => zf0 hp
    have wk : IntKind.i64.wrap ((k : Int) - 1) = (k : Int) - 1 := w64 ⟨by omega, by omega⟩
    have wn : IntKind.i64.wrap ((n : Int) - 1) = (n : Int) - 1 := w64 ⟨by omega, by omega⟩
    have nri : ¬ ri = H1.next := by
      obtain ⟨B, b, o⟩ := id d1.ex
      have := (o.rowAt 1 rfl).2.1; have := b.next; omega
    have hsep : ∀ (Hp H' : AH) (L : List Th) (K : Value → AH → Prop) (m : Int), -1 ≤ m ∧ m ≤ 4294967296 → Dq cv nb H1.next H2 Hp L → (∀ (x : Int) H', Nr x → LES (fun j => j ≠ H1.next) Hp H' → Dq cv nb H1.next H2 H' L → K (.int .i64 x) H') → ACalls Tryz.prog 47 [.pointer (some ⟨H1.next, 0, none⟩), .int .i64 m] Hp K := by
      intro Hp H' L K m hm d hK
      refine (zhE cv nb H1.next m Hp hm hnb (d.src hsi) (d.code hc hsc) d.sc).mono ?_
      rintro v H' ⟨x, rfl, x1, x2, B, k1, o⟩
      exact hK x H' ⟨x1, x2⟩ (les_of k1 o d.sc) ((d.call hsi k1 o).map fun B o => Ow.left o)
    refine Holds.mp ?_
    try simp (disch := first | omega | (simp only [L3] <;> omega)) only [Sall,evalOp,init,binA_s,binE,binI,unE,convE,okNil,builtE,gv,TD.isAgg,resV,↓reduceIte,Nat.reduceEqDiff,reduceCtorEq,Nat.reduceAdd,Nat.reduceMul,Nat.reduceLeDiff,za0,za2,Int.reduceEq,Int.reduceLT,Int.reduceLE,Nat.reduceLT,tiA,tiXA, hw, h7, h8, g2, hu, builtE, hlu, wk]
    refine hsep _ H4 _ _ _ (by split <;> omega) d2 ?_
    intro xi H5 hxi les5 d3
    have g3 := d3.rowAt 1 rfl
    refine Holds.mp ?_
    try simp (disch := first | omega | (simp only [L3] <;> omega)) only [Sall,evalOp,init,binA_s,binE,binI,unE,convE,okNil,builtE,gv,TD.isAgg,resV,↓reduceIte,Nat.reduceEqDiff,reduceCtorEq,Nat.reduceAdd,Nat.reduceMul,Nat.reduceLeDiff,za0,za2,Int.reduceEq,Int.reduceLT,Int.reduceLE,Nat.reduceLT,tiA,tiXA, h7, h8]
    refine zc1 (fun j => j ≠ H1.next) [0, 1, 2, 3, 5, 6, 7, 8, 4, 9, 10, 11] (by kernel_rfl) (by kernel_rfl) (by kernel_rfl) ?_
    try simp (disch := first | omega | (simp only [L3] <;> omega)) only [Sall,evalOp,init,binA_s,binE,binI,unE,convE,okNil,builtE,gv,TD.isAgg,resV,↓reduceIte,Nat.reduceEqDiff,reduceCtorEq,Nat.reduceAdd,Nat.reduceMul,Nat.reduceLeDiff,za0,za2,Int.reduceEq,Int.reduceLT,Int.reduceLE,Nat.reduceLT,tiA,tiXA, zaI, zaD, zaC, loadOk, g3, nri, wn, h7, h8]
    refine hsep _ H5 _ _ _ (by omega) d3 ?_
    intro xa H6 hxa les6 d4
    have g4 := d4.rowAt 1 rfl
    refine ⟨.inr (.inr les6), ?_⟩
    try simp (disch := first | omega | (simp only [L3] <;> omega)) only [Sall,evalOp,init,binA_s,binE,binI,unE,convE,okNil,builtE,gv,TD.isAgg,resV,↓reduceIte,Nat.reduceEqDiff,reduceCtorEq,Nat.reduceAdd,Nat.reduceMul,Nat.reduceLeDiff,za0,za2,Int.reduceEq,Int.reduceLT,Int.reduceLE,Nat.reduceLT,tiA,tiXA, zaI, zaD, zaC, loadOk, g4, nri, wn, h7, h8]
    refine hsep _ H6 _ _ _ (by omega) d4 ?_
    intro xb H7 hxb les7 d5
    have g5 := d5.rowAt 1 rfl
    refine ⟨.inr (.inr les7), ?_⟩
    try simp (disch := first | omega | (simp only [L3] <;> omega)) only [Sall,evalOp,init,binA_s,binE,binI,unE,convE,okNil,builtE,gv,TD.isAgg,resV,↓reduceIte,Nat.reduceEqDiff,reduceCtorEq,Nat.reduceAdd,Nat.reduceMul,Nat.reduceLeDiff,za0,za2,Int.reduceEq,Int.reduceLT,Int.reduceLE,Nat.reduceLT,tiA,tiXA, zaI, zaD, zaC, loadOk, g5, h7, h8]
    refine (l05Bad_c cv nb H1.next n w ll H7 hn hVn (fun H' h => d5.seesX hsi 2 rfl H' (fun i r _ hi hr => h i r hi hr)) hnb (d5.src hsi) (d5.code hc hsc)).mono ?_
    rintro w2 H8 ⟨ll2, hVb, e8⟩
    have d6 := d5.bind hsi e8
    have hw2 : w2.oneCell' = true := (d6.sees 3 rfl).one
    have g6 := d6.rowAt 1 rfl
    refine Holds.mp ?_
    try simp (disch := first | omega | (simp only [L3] <;> omega)) only [Sall,evalOp,init,binA_s,binE,binI,unE,convE,okNil,builtE,gv,TD.isAgg,resV,↓reduceIte,Nat.reduceEqDiff,reduceCtorEq,Nat.reduceAdd,Nat.reduceMul,Nat.reduceLeDiff,za0,za2,Int.reduceEq,Int.reduceLT,Int.reduceLE,Nat.reduceLT,tiA,tiXA, h7, h8, g6, hu, hw2]
    refine ACalls.ex4 (g := fun (q : Int) (_ : Nat) (u : Value) (_ : List Int) => .agg #[.int .i64 q, u]) (l01Bad_c cv nb H1.next n k u l H8 hn hk hV (d6.rsx hsi 0 rfl) hnb (d6.src hsi) (d6.code hc hsc)) ?_
    rintro q k' u' l' H9 ⟨hq, hk', hbad, L, d7, hor⟩
    have d8 := d6.bind hsi d7
    have hu' : u'.oneCell' = true := by
      rcases hor with ⟨e, _, _⟩ | h
      · rw [e]; exact hu
      · exact d7.capOne 0 h
    have b0 := (o1.rowAt 0 rfl)
    have g0 : H9.row H.next = some ⟨26, true, [.int .i64 0, .slice none 0 0]⟩ := by
      rw [d8.lowEq (by omega) (by omega), up2.row _ (by omega)]; exact b0.1
    refine Holds.mp ?_
    try simp (disch := first | omega | (simp only [L3] <;> omega)) only [Sall,evalOp,init,binA_s,binE,binI,unE,convE,okNil,builtE,gv,TD.isAgg,resV,↓reduceIte,Nat.reduceEqDiff,reduceCtorEq,Nat.reduceAdd,Nat.reduceMul,Nat.reduceLeDiff,za0,za2,Int.reduceEq,Int.reduceLT,Int.reduceLE,Nat.reduceLT,tiA,tiXA, h2, g0, hu', hw2]
    obtain ⟨Bs, nbs, os⟩ := d8.shift (i := H.next) (by omega) [.int .i64 q, u']
    have hle := d8.le
    obtain ⟨B3, H3, o3, hold⟩ := os.alone
    refine ⟨((q, u'), w2), xi, xa, xb, rfl, ⟨hxi, hxa, hxb⟩, k', l', ll2, hq, hk', hbad, hVb, fun Hx hx => ?_, Ow.of_up ⟨by show H.next ≤ H9.next; omega, fun i hi => ?_⟩ (d8.sc.set _ _)⟩
    · have old : ∀ i r, H3.row i = some r → Hx.row i = some r := fun i r hr => by
        obtain ⟨h1, h2⟩ := hold i r hr
        exact hx i r (by omega) h2
      refine ⟨?_, (o3.sees 3 rfl).same old⟩
      rcases hor with ⟨e1, e2, e3⟩ | h
      · have hh := ((o3.capRs 0 rfl).same old).rd
        rw [← e1, ← e2, ← e3] at hh
        exact hh
      · exact ((o3.capRs 4 (by rw [List.getElem?_append_right (by simp)]; exact h)).same old).rd
    · rw [AH.setCells_row, if_neg (by omega), d8.lowEq (by omega) (by omega), up2.row _ (by omega), o1.low _ hi]
theorem drawBreaksOf_c (cv : Value) (nb : Nat) (H : AH) (hnb : nb ≤ 4611686018427387904) (hc0 : CodeOk H cv nb) :
    ACalls Tryz.prog 24 [cv] H (fun r H' => ∃ p : (Int × Value) × Value, r = .tuple #[.agg #[.int .i64 p.1.1, p.1.2], p.2] ∧ WithV H p H') := by
  refine ACalls.wf (by kernel_rfl) fun hsc0 => za3 [.cell 2 26, .tmp 3] Tryz.func24 (by kernel_rfl) rfl rfl (Nat.le_of_ble_eq_true rfl) (by kernel_rfl) ?_
  have o1 := (Ow.refl hsc0).push ⟨26, true, [.int .i64 0, .slice none 0 0]⟩
  have hone := hc0.one
  try simp (disch := first | omega | (simp only [L3] <;> omega)) only [Sall,evalOp,init,binA_s,binE,binI,unE,convE,okNil,builtE,gv,TD.isAgg,resV,↓reduceIte,Nat.reduceEqDiff,reduceCtorEq,Nat.reduceAdd,Nat.reduceMul,Nat.reduceLeDiff,za0,za2,Int.reduceEq,Int.reduceLT,Int.reduceLE,Nat.reduceLT,tiA,tiXA, hone]
  generalize H.push ⟨26, true, [.int .i64 0, .slice none 0 0]⟩ = H1 at o1 ⊢
  have hc1 : CodeOk H1 cv nb := codeUp hc0 (o1.old hsc0)
  refine (zg1 cv nb H1 hnb hc1).mono ?_
  rintro r H2 ⟨⟨⟨q, u⟩, w⟩, i, a, b, er, _, k, l, ll, hq, hk, hb, hVb, hR, o2⟩
  dsimp only at er hq hR
  have hR2 := hR H2 fun i r _ h => h
  have hu := hR2.1.one
  have hw := hR2.2.one
  have g0 : H2.row H.next = some ⟨26, true, [.int .i64 0, .slice none 0 0]⟩ := by
    rw [o2.low _ (o1.rowAt 0 rfl).2.2]; exact (o1.rowAt 0 rfl).1
  have b0 := (o1.rowAt 0 rfl).2.2
  have b2 := o2.next
  have ne : ¬ H.next = H2.next := by omega
  have ne' : ¬ H2.next = H.next := by omega
  refine Holds.mp ?_
  try simp (disch := first | omega | (simp only [L3] <;> omega)) only [Sall,evalOp,init,binA_s,binE,binI,unE,convE,okNil,builtE,gv,TD.isAgg,resV,↓reduceIte,Nat.reduceEqDiff,reduceCtorEq,Nat.reduceAdd,Nat.reduceMul,Nat.reduceLeDiff,za0,za2,Int.reduceEq,Int.reduceLT,Int.reduceLE,Nat.reduceLT,tiA,tiXA, er, hu, hw, g0, ne, ne']
  refine ⟨((q, u), w), rfl, k, l, ll, hq, hk, hb, hVb, fun Hx hx => hR Hx fun i r hi hr => hx i r (by omega) ?_, Ow.of_up ⟨?_, fun i hi => ?_⟩ (((o2.sc.push _).set _ _).set _ _)⟩
  · have := o2.sc _ _ hr
    rw [AH.setCells_row, if_neg (by omega), AH.setCells_row, if_neg (by omega), AH.push_row, if_neg (by omega)]; exact hr
  · show H.next ≤ H2.next + 1
    omega
  · rw [AH.setCells_row, if_neg (by omega), AH.setCells_row, if_neg (by omega), AH.push_row, if_neg (by omega), o2.low _ (by omega), o1.low _ hi]
theorem drawPatternOf_c (cv : Value) (nb : Nat) (H : AH) (hnb : nb ≤ 4611686018427387904) (hc0 : CodeOk H cv nb) :
    ACalls Tryz.prog 26 [cv] H (fun r H' => ∃ (p : (Int × Value) × Value) (a : Int), r = .tuple #[.agg #[.int .i64 p.1.1, p.1.2], p.2, .int .i64 a] ∧ Nr a ∧ WithV H p H') := by
  refine ACalls.wf (by kernel_rfl) fun hsc0 => za3 [.cell 2 26, .tmp 3, .tmp 4] Tryz.func26 (by kernel_rfl) rfl rfl (Nat.le_of_ble_eq_true rfl) (by kernel_rfl) ?_
  have o1 := (Ow.refl hsc0).push ⟨26, true, [.int .i64 0, .slice none 0 0]⟩
  have hone := hc0.one
  try simp (disch := first | omega | (simp only [L3] <;> omega)) only [Sall,evalOp,init,binA_s,binE,binI,unE,convE,okNil,builtE,gv,TD.isAgg,resV,↓reduceIte,Nat.reduceEqDiff,reduceCtorEq,Nat.reduceAdd,Nat.reduceMul,Nat.reduceLeDiff,za0,za2,Int.reduceEq,Int.reduceLT,Int.reduceLE,Nat.reduceLT,tiA,tiXA, hone]
  generalize H.push ⟨26, true, [.int .i64 0, .slice none 0 0]⟩ = H1 at o1 ⊢
  have hc1 : CodeOk H1 cv nb := codeUp hc0 (o1.old hsc0)
  refine (zg1 cv nb H1 hnb hc1).mono ?_
  rintro r H2 ⟨⟨⟨q, u⟩, w⟩, i, a, b, er, ⟨_, ha, _⟩, k, l, ll, hq, hk, hb, hVb, hR, o2⟩
  dsimp only at er hq hR
  have hR2 := hR H2 fun i r _ h => h
  have hu := hR2.1.one
  have hw := hR2.2.one
  have g0 : H2.row H.next = some ⟨26, true, [.int .i64 0, .slice none 0 0]⟩ := by
    rw [o2.low _ (o1.rowAt 0 rfl).2.2]; exact (o1.rowAt 0 rfl).1
  have b0 := (o1.rowAt 0 rfl).2.2
  have b2 := o2.next
  have ne : ¬ H.next = H2.next := by omega
  have ne' : ¬ H2.next = H.next := by omega
  refine Holds.mp ?_
  try simp (disch := first | omega | (simp only [L3] <;> omega)) only [Sall,evalOp,init,binA_s,binE,binI,unE,convE,okNil,builtE,gv,TD.isAgg,resV,↓reduceIte,Nat.reduceEqDiff,reduceCtorEq,Nat.reduceAdd,Nat.reduceMul,Nat.reduceLeDiff,za0,za2,Int.reduceEq,Int.reduceLT,Int.reduceLE,Nat.reduceLT,tiA,tiXA, er, hu, hw, g0, ne, ne']
  refine ⟨((q, u), w), a, rfl, ha, k, l, ll, hq, hk, hb, hVb, fun Hx hx => hR Hx fun i r hi hr => hx i r (by omega) ?_, Ow.of_up ⟨?_, fun i hi => ?_⟩ (((o2.sc.push _).set _ _).set _ _)⟩
  · have := o2.sc _ _ hr
    rw [AH.setCells_row, if_neg (by omega), AH.setCells_row, if_neg (by omega), AH.push_row, if_neg (by omega)]; exact hr
  · show H.next ≤ H2.next + 1
    omega
  · rw [AH.setCells_row, if_neg (by omega), AH.setCells_row, if_neg (by omega), AH.push_row, if_neg (by omega), o2.low _ (by omega), o1.low _ hi]
theorem drawCircleVenues_c (cv : Value) (nb : Nat) (H : AH) (hnb : nb ≤ 4611686018427387904) (hc0 : CodeOk H cv nb) :
    ACalls Tryz.prog 11 [cv] H (fun r H' => ∃ n : Int, r = .int .i64 n ∧ (-4611686018427387902 ≤ n ∧ n ≤ 1099511627778) ∧ Ow H H' []) := by
  refine ACalls.wf (by kernel_rfl) fun hsc0 => za3 [.tmp 2] Tryz.func11 (by kernel_rfl) rfl rfl (Nat.le_of_ble_eq_true rfl) (by kernel_rfl) ?_
  have hone := hc0.one
  try simp (disch := first | omega | (simp only [L3] <;> omega)) only [Sall,evalOp,init,binA_s,binE,binI,unE,convE,okNil,builtE,gv,TD.isAgg,resV,↓reduceIte,Nat.reduceEqDiff,reduceCtorEq,Nat.reduceAdd,Nat.reduceMul,Nat.reduceLeDiff,za0,za2,Int.reduceEq,Int.reduceLT,Int.reduceLE,Nat.reduceLT,tiA,tiXA, hone]
  refine (ze3 cv nb H hnb hc0).fin ?_
  rintro H1 ⟨up1, sc1, n1, s1⟩
  have hc := CodeX.of hc0 hsc0 up1
  have d0 := Dq.start s1 sc1
  refine Holds.mp ?_
  try simp (disch := first | omega | (simp only [L3] <;> omega)) only [Sall,evalOp,init,binA_s,binE,binI,unE,convE,okNil,builtE,gv,TD.isAgg,resV,↓reduceIte,Nat.reduceEqDiff,reduceCtorEq,Nat.reduceAdd,Nat.reduceMul,Nat.reduceLeDiff,za0,za2,Int.reduceEq,Int.reduceLT,Int.reduceLE,Nat.reduceLT,tiA,tiXA, true_and]
  refine (zhE cv nb H.next 12 H1 (by omega) hnb s1 hc sc1).mono ?_
  rintro v H2 ⟨x, ev, x1, x2, B, k1, o⟩
  have wx : IntKind.i64.wrap (2 + x) = 2 + x := w64 ⟨by omega, by omega⟩
  have d1 := d0.call n1 k1 o
  refine Holds.mp ?_
  try simp (disch := first | omega | (simp only [L3] <;> omega)) only [Sall,evalOp,init,binA_s,binE,binI,unE,convE,okNil,builtE,gv,TD.isAgg,resV,↓reduceIte,Nat.reduceEqDiff,reduceCtorEq,Nat.reduceAdd,Nat.reduceMul,Nat.reduceLeDiff,za0,za2,Int.reduceEq,Int.reduceLT,Int.reduceLE,Nat.reduceLT,tiA,tiXA, ev, wx]
  exact ⟨⟨by omega, by omega⟩, Dr.fin ⟨d1.ex⟩ up1⟩
end Go.Proofs.YtemgclojolmhbaaGreat.A
end

section
set_option maxRecDepth 100000
set_option maxHeartbeats 4000000
namespace Go.Proofs.YtemgclojolmhbaaGreat.A
open Go Go.Abs Go.RowKit
theorem drawFewestBreaks_c (cv : Value) (nb : Nat) (H : AH) (hnb : nb ≤ 4611686018427387904) (hc0 : CodeOk H cv nb) :
    ACalls Tryz.prog 5 [cv] H (DrawnB H) := by
  refine ACalls.wf (by kernel_rfl) fun hsc0 => za3 [.cell 2 26] Tryz.func5 (by kernel_rfl) rfl rfl (Nat.le_of_ble_eq_true rfl) (by kernel_rfl) ?_
  refine zi3 (fun t H' => ∃ (n k ri : Nat) (u : Value) (l : List Int) (H1 H2 : AH), t 2 = .pointer (some ⟨H.next, 0, none⟩) ∧ t 3 = .pointer (some ⟨H1.next, 0, none⟩) ∧ t 4 = .pointer (some ⟨ri, 0, none⟩) ∧ (2 ≤ n ∧ n ≤ 14) ∧ k ≤ 40 ∧ VL n l ∧
    Ow H H1 [.row H.next ⟨26, true, [.int .i64 0, .slice none 0 0]⟩] ∧ Up H1.next H1 H2 ∧ Sc H2 ∧ H1.next < H2.next ∧ CodeX cv nb H1.next H2 ∧ Src cv nb H1.next H2 ∧
    Dq cv nb H1.next H2 H' [.cap 14 67 u k (ints l), .row ri ⟨26, true, [.int .i64 n, u]⟩]) ?_ ?_
  · have o1 := (Ow.refl hsc0).push ⟨26, true, [.int .i64 0, .slice none 0 0]⟩
    have hb : ∀ (t : T) (H : AH), evalOp Tryz.prog t H (.buildSlice 33 7 #[(0, .const (.int .i64 2)), (1, .const (.int .i64 3)), (2, .const (.int .i64 4)), (3, .const (.int .i64 4)), (4, .const (.int .i64 5)), (5, .const (.int .i64 6)), (6, .const (.int .i64 6))]) = .need (7 ≤ 16777216 ∧ 7 * 1 ≤ 16777216) (.val (.slice (some ⟨H.next, 0, some 1⟩) 7 7) (H.push ⟨2, true, ints [2, 3, 4, 4, 5, 6, 6]⟩)) := fun t H => by kernel_rfl
    generalize (Op.buildSlice 33 7 #[(0, .const (.int .i64 2)), (1, .const (.int .i64 3)), (2, .const (.int .i64 4)), (3, .const (.int .i64 4)), (4, .const (.int .i64 5)), (5, .const (.int .i64 6)), (6, .const (.int .i64 6))]) = bop at hb ⊢
    have hone := hc0.one
    simp (config := {maxSteps := 3000000}) (disch := first | omega | (simp only [L3] <;> omega)) only [Sall,evalOp,init,binA_s,binE,binI,unE,convE,okNil,builtE,gv,TD.isAgg,resV,↓reduceIte,Nat.reduceEqDiff,reduceCtorEq,Nat.reduceAdd,Nat.reduceMul,Nat.reduceLeDiff,za0,za2,Int.reduceEq,Int.reduceLT,Int.reduceLE,Nat.reduceLT,tiA,tiXA, ↓hb, hone]
    generalize H.push ⟨26, true, [.int .i64 0, .slice none 0 0]⟩ = H1 at o1 ⊢
    have hc1 : CodeOk H1 cv nb := codeUp hc0 (o1.old hsc0)
    refine (ze3 cv nb H1 hnb hc1).fin ?_
    rintro H2 ⟨up2, hsc, hsi, hs⟩
    have hc := CodeX.of hc1 o1.sc up2
    have d0 := Dq.start hs hsc
    refine Holds.mp ?_
    simp (config := {maxSteps := 3000000}) (disch := first | omega | (simp only [L3] <;> omega)) only [Sall,evalOp,init,binA_s,binE,binI,unE,convE,okNil,builtE,gv,TD.isAgg,resV,↓reduceIte,Nat.reduceEqDiff,reduceCtorEq,Nat.reduceAdd,Nat.reduceMul,Nat.reduceLeDiff,za0,za2,Int.reduceEq,Int.reduceLT,Int.reduceLE,Nat.reduceLT,tiA,tiXA, ↓hb]
    refine (pickL [2, 3, 4, 4, 5, 6, 6] 7 rfl (by omega) (by omega) d0 hsi hc hsc hnb).ex ?_
    rintro x H3 ⟨hx, d1⟩
    have hx2 : 2 ≤ x ∧ x ≤ 14 := by
      simp only [List.mem_cons, List.not_mem_nil, or_false] at hx
      omega
    obtain ⟨n, rfl⟩ : ∃ n : Nat, x = n := ⟨x.toNat, by omega⟩
    have hn : 2 ≤ n ∧ n ≤ 14 := by omega
    refine Holds.mp ?_
    try simp (disch := first | omega | (simp only [L3] <;> omega)) only [Sall,evalOp,init,binA_s,binE,binI,unE,convE,okNil,builtE,gv,TD.isAgg,resV,↓reduceIte,Nat.reduceEqDiff,reduceCtorEq,Nat.reduceAdd,Nat.reduceMul,Nat.reduceLeDiff,za0,za2,Int.reduceEq,Int.reduceLT,Int.reduceLE,Nat.reduceLT,tiA,tiXA, true_and]
    refine (ACalls.scz (zdE n hn H3)).ex ?_
    rintro u H4 ⟨⟨up3, fr3⟩, sc3⟩
    have o3 := Ow.of_fr up3 sc3 fr3
    have hu := o3.one 0 rfl
    have d2 : Dq cv nb H1.next H2 H4 [.sl 14 67 u (oddUp n) (ints (zaW n (oddUp n)))] := d1.calls o3
    have d3 := ((d2.toCap 0 rfl).push ⟨26, true, [.int .i64 0, .slice none 0 0]⟩).putRow 1 rfl (cs' := [.int .i64 n, u])
    have hV := zfX hn
    have hk : 1 ≤ oddUp n ∧ oddUp n ≤ 13 := by unfold oddUp; omega
    revert d3 hV hk
    generalize zaW n (oddUp n) = l
    generalize oddUp n = k
    intro d3 hV hk
    refine Holds.mp ?_
    try simp (disch := first | omega | (simp only [L3] <;> omega)) only [Sall,evalOp,init,binA_s,binE,binI,unE,convE,okNil,builtE,gv,TD.isAgg,resV,↓reduceIte,Nat.reduceEqDiff,reduceCtorEq,Nat.reduceAdd,Nat.reduceMul,Nat.reduceLeDiff,za0,za2,Int.reduceEq,Int.reduceLT,Int.reduceLE,Nat.reduceLT,tiA,tiXA, hu]
    obtain ⟨ri, eri⟩ : ∃ ri, ri = H4.next := ⟨_, rfl⟩
    have nri : ¬ ri = H1.next := by have := d2.le; omega
    rw [← eri] at d3 ⊢
    generalize (H4.push ⟨26, true, [.int .i64 0, .slice none 0 0]⟩).setCells ri [.int .i64 n, u] = H5 at d3 ⊢
    refine (nextD 4 d3 hsi hc hsc hnb (by omega)).ex ?_
    rintro y H6 ⟨hy, d4⟩
    have d4 : Dq cv nb H1.next H2 H6 [.cap 14 67 u k (ints l), .row ri ⟨26, true, [.int .i64 n, u]⟩] := d4
    refine Holds.mp ?_
    by_cases c0 : (y : Int) = 0
    · have f0 : ((y : Int) == 0) = true := beq_iff_eq.2 c0
      try simp (disch := first | omega | (simp only [L3] <;> omega)) only [Sall,evalOp,init,binA_s,binE,binI,unE,convE,okNil,builtE,gv,TD.isAgg,resV,↓reduceIte,Nat.reduceEqDiff,reduceCtorEq,Nat.reduceAdd,Nat.reduceMul,Nat.reduceLeDiff,za0,za2,Int.reduceEq,Int.reduceLT,Int.reduceLE,Nat.reduceLT,tiA,tiXA, f0]
      refine ACalls.ex4 (g := fun n _ u _ => .agg #[.int .i64 (n : Nat), u]) (zhR cv nb H1.next H6 hnb (d4.src hsi) (d4.code hc hsc)) ?_
      rintro n2 k2 u2 l2 H7 ⟨hn2, hk2, hV2, e2⟩
      have d5 := d4.bind hsi e2
      have g1 := d5.rowAt 1 rfl
      have hu2 := d5.capOne 2 rfl
      refine Holds.mp ?_
      try simp (disch := first | omega | (simp only [L3] <;> omega)) only [Sall,evalOp,init,binA_s,binE,binI,unE,convE,okNil,builtE,gv,TD.isAgg,resV,↓reduceIte,Nat.reduceEqDiff,reduceCtorEq,Nat.reduceAdd,Nat.reduceMul,Nat.reduceLeDiff,za0,za2,Int.reduceEq,Int.reduceLT,Int.reduceLE,Nat.reduceLT,tiA,tiXA, g1, hu2]
      refine ⟨n2, k2, ri, u2, l2, H1, H2, ?_⟩
      try simp (disch := first | omega | (simp only [L3] <;> omega)) only [Sall,evalOp,init,binA_s,binE,binI,unE,convE,okNil,builtE,gv,TD.isAgg,resV,↓reduceIte,Nat.reduceEqDiff,reduceCtorEq,Nat.reduceAdd,Nat.reduceMul,Nat.reduceLeDiff,za0,za2,Int.reduceEq,Int.reduceLT,Int.reduceLE,Nat.reduceLT,tiA,tiXA, true_and]
      exact ⟨hn2, by omega, hV2, o1, up2, hsc, hsi, hc, hs, (d5.putRow 1 rfl).map fun B o => Ow.three o⟩
    have f0 : ((y : Int) == 0) = false := beq_eq_false_iff_ne.2 c0
    by_cases c1 : (y : Int) = 1
    · have f1 : ((y : Int) == 1) = true := beq_iff_eq.2 c1
      try simp (disch := first | omega | (simp only [L3] <;> omega)) only [Sall,evalOp,init,binA_s,binE,binI,unE,convE,okNil,builtE,gv,TD.isAgg,resV,↓reduceIte,Nat.reduceEqDiff,reduceCtorEq,Nat.reduceAdd,Nat.reduceMul,Nat.reduceLeDiff,za0,za2,Int.reduceEq,Int.reduceLT,Int.reduceLE,Nat.reduceLT,tiA,tiXA, f0, f1]
      have g1 := d4.rowAt 1 rfl
      have hu5 := d4.capOne 0 rfl
      have hlu := (d4.capRs 0 rfl).rd.len
      refine zc1 (fun j => j ≠ H1.next) [0, 1, 2, 3, 4, 5, 6, 7] (by kernel_rfl) (by kernel_rfl) (by kernel_rfl) ?_
      try simp (disch := first | omega | (simp only [L3] <;> omega)) only [Sall,evalOp,init,binA_s,binE,binI,unE,convE,okNil,builtE,gv,TD.isAgg,resV,↓reduceIte,Nat.reduceEqDiff,reduceCtorEq,Nat.reduceAdd,Nat.reduceMul,Nat.reduceLeDiff,za0,za2,Int.reduceEq,Int.reduceLT,Int.reduceLE,Nat.reduceLT,tiA,tiXA, zaI, zaD, zaC, loadOk, g1, hu5, nri, builtE, hlu]
      refine (zbG cv nb H1.next k H6 (by omega) hnb (d4.src hsi) (d4.code hc hsc)).mono ?_
      rintro w H8 ⟨y, B8, k8, o8, hp⟩
      rw [Int.toNat_natCast] at o8 hp
      have d7 := d4.call hsi k8 o8
      refine ⟨.inr (.inr (les_of k8 o8 d4.sc)), ?_⟩
      have hw := o8.one 0 rfl
      try simp (disch := first | omega | (simp only [L3] <;> omega)) only [Sall,evalOp,init,binA_s,binE,binI,unE,convE,okNil,builtE,gv,TD.isAgg,resV,↓reduceIte,Nat.reduceEqDiff,reduceCtorEq,Nat.reduceAdd,Nat.reduceMul,Nat.reduceLeDiff,za0,za2,Int.reduceEq,Int.reduceLT,Int.reduceLE,Nat.reduceLT,tiA,tiXA, zaI, zaD, zaC, loadOk, hw, hu5, nri]
      have hyl := hp.len
      refine (ACalls.scz (zdA n u k l w y H8 (d7.capRs 0 rfl).rd (by rw [hyl]; exact d7.rd 2 rfl) hp.rng (by omega) (by omega))).ex ?_
      rintro u' H9 ⟨⟨up9, fr9⟩, sc9⟩
      rw [hyl] at fr9
      have o9 := Ow.of_fr up9 sc9 fr9
      have d8 := (d7.calls o9).toCap 3 rfl
      refine ⟨.inr (.inr (LE.les (o9.up.le d7.sc))), ?_⟩
      have g1' := d8.rowAt 1 rfl
      have hu7 := o9.one 0 rfl
      try simp (disch := first | omega | (simp only [L3] <;> omega)) only [Sall,evalOp,init,binA_s,binE,binI,unE,convE,okNil,builtE,gv,TD.isAgg,resV,↓reduceIte,Nat.reduceEqDiff,reduceCtorEq,Nat.reduceAdd,Nat.reduceMul,Nat.reduceLeDiff,za0,za2,Int.reduceEq,Int.reduceLT,Int.reduceLE,Nat.reduceLT,tiA,tiXA, zaI, zaD, zaC, loadOk, g1', hu7, nri]
      refine ⟨.inr (.inl (by kernel_rfl)), n, k, ri, u', reoL l y, H1, H2, ?_⟩
      try simp (disch := first | omega | (simp only [L3] <;> omega)) only [Sall,evalOp,init,binA_s,binE,binI,unE,convE,okNil,builtE,gv,TD.isAgg,resV,↓reduceIte,Nat.reduceEqDiff,reduceCtorEq,Nat.reduceAdd,Nat.reduceMul,Nat.reduceLeDiff,za0,za2,Int.reduceEq,Int.reduceLT,Int.reduceLE,Nat.reduceLT,tiA,tiXA, true_and]
      exact ⟨hn, by omega, reoVL hV, o1, up2, hsc, hsi, hc, hs, (d8.putRow 1 rfl).map fun B o => Ow.pick2 o 3 1 rfl rfl (by decide)⟩
    have f1 : ((y : Int) == 1) = false := beq_eq_false_iff_ne.2 c1
    by_cases c2 : (y : Int) = 2
    · have f2 : ((y : Int) == 2) = true := beq_iff_eq.2 c2
      try simp (disch := first | omega | (simp only [L3] <;> omega)) only [Sall,evalOp,init,binA_s,binE,binI,unE,convE,okNil,builtE,gv,TD.isAgg,resV,↓reduceIte,Nat.reduceEqDiff,reduceCtorEq,Nat.reduceAdd,Nat.reduceMul,Nat.reduceLeDiff,za0,za2,Int.reduceEq,Int.reduceLT,Int.reduceLE,Nat.reduceLT,tiA,tiXA, f0, f1, f2]
      have g1 := d4.rowAt 1 rfl
      have hu5 := d4.capOne 0 rfl
      have hlu := (d4.capRs 0 rfl).rd.len
      refine zc1 (fun j => j ≠ H1.next) [0, 1, 2, 3, 4, 5, 6, 7, 8, 9] (by kernel_rfl) (by kernel_rfl) (by kernel_rfl) ?_
      try simp (disch := first | omega | (simp only [L3] <;> omega)) only [Sall,evalOp,init,binA_s,binE,binI,unE,convE,okNil,builtE,gv,TD.isAgg,resV,↓reduceIte,Nat.reduceEqDiff,reduceCtorEq,Nat.reduceAdd,Nat.reduceMul,Nat.reduceLeDiff,za0,za2,Int.reduceEq,Int.reduceLT,Int.reduceLE,Nat.reduceLT,tiA,tiXA, zaI, zaD, zaC, loadOk, g1, hu5, nri, builtE, hlu]
      refine (nextE (k : Int) d4 hsi hc hsc hnb (by omega)).ex ?_
      rintro y2 H7 ⟨hy2, les5, d5⟩
      have hyk : y2 ≤ k := by omega
      obtain ⟨w, hw, d6⟩ := d5.cut 0 rfl (hi := some (y2 : Int)) (b := y2) rfl hyk
      have g2' := d6.rowAt 1 rfl
      have hw1 := d6.capOne 0 rfl
      refine ⟨.inr (.inr les5), ?_⟩
      try simp (disch := first | omega | (simp only [L3] <;> omega)) only [Sall,evalOp,init,binA_s,binE,binI,unE,convE,okNil,builtE,gv,TD.isAgg,resV,↓reduceIte,Nat.reduceEqDiff,reduceCtorEq,Nat.reduceAdd,Nat.reduceMul,Nat.reduceLeDiff,za0,za2,Int.reduceEq,Int.reduceLT,Int.reduceLE,Nat.reduceLT,tiA,tiXA, zaI, zaD, zaC, loadOk, nri]
      refine hw _ _ _ _ rfl ?_
      try simp (disch := first | omega | (simp only [L3] <;> omega)) only [Sall,evalOp,init,binA_s,binE,binI,unE,convE,okNil,builtE,gv,TD.isAgg,resV,↓reduceIte,Nat.reduceEqDiff,reduceCtorEq,Nat.reduceAdd,Nat.reduceMul,Nat.reduceLeDiff,za0,za2,Int.reduceEq,Int.reduceLT,Int.reduceLE,Nat.reduceLT,tiA,tiXA, zaI, zaD, zaC, loadOk, g2', hw1, nri]
      have d7 := d6.putRow 1 rfl (cs' := [.int .i64 n, w])
      have hVy := hV.take (y2 * 14)
      refine ⟨.inr (.inl (by kernel_rfl)), n, y2, ri, w, l.take (y2 * 14), H1, H2, ?_⟩
      try simp (disch := first | omega | (simp only [L3] <;> omega)) only [Sall,evalOp,init,binA_s,binE,binI,unE,convE,okNil,builtE,gv,TD.isAgg,resV,↓reduceIte,Nat.reduceEqDiff,reduceCtorEq,Nat.reduceAdd,Nat.reduceMul,Nat.reduceLeDiff,za0,za2,Int.reduceEq,Int.reduceLT,Int.reduceLE,Nat.reduceLT,tiA,tiXA, true_and]
      exact ⟨hn, by omega, hVy, o1, up2, hsc, hsi, hc, hs, d7⟩
    have f2 : ((y : Int) == 2) = false := beq_eq_false_iff_ne.2 c2
    try simp (disch := first | omega | (simp only [L3] <;> omega)) only [Sall,evalOp,init,binA_s,binE,binI,unE,convE,okNil,builtE,gv,TD.isAgg,resV,↓reduceIte,Nat.reduceEqDiff,reduceCtorEq,Nat.reduceAdd,Nat.reduceMul,Nat.reduceLeDiff,za0,za2,Int.reduceEq,Int.reduceLT,Int.reduceLE,Nat.reduceLT,tiA,tiXA, f0, f1, f2]
    refine ⟨n, k, ri, u, l, H1, H2, ?_⟩
    try simp (disch := first | omega | (simp only [L3] <;> omega)) only [Sall,evalOp,init,binA_s,binE,binI,unE,convE,okNil,builtE,gv,TD.isAgg,resV,↓reduceIte,Nat.reduceEqDiff,reduceCtorEq,Nat.reduceAdd,Nat.reduceMul,Nat.reduceLeDiff,za0,za2,Int.reduceEq,Int.reduceLT,Int.reduceLE,Nat.reduceLT,tiA,tiXA, true_and]
    exact ⟨hn, by omega, hV, o1, up2, hsc, hsi, hc, hs, d4⟩
  · rintro t H3 ⟨n, k, ri, u, l, H1, H2, h2, h3, h4, hn, hk, hV, o1, up2, hsc, hsi, hc, hs, d3⟩
    have g1 := d3.rowAt 1 rfl
    have hu := d3.capOne 0 rfl
    try simp (disch := first | omega | (simp only [L3] <;> omega)) only [Sall,evalOp,init,binA_s,binE,binI,unE,convE,okNil,builtE,gv,TD.isAgg,resV,↓reduceIte,Nat.reduceEqDiff,reduceCtorEq,Nat.reduceAdd,Nat.reduceMul,Nat.reduceLeDiff,za0,za2,Int.reduceEq,Int.reduceLT,Int.reduceLE,Nat.reduceLT,tiA,tiXA, h3, h4, g1, hu]
    refine ACalls.ex4 (g := fun (q : Int) (_ : Nat) (u : Value) (_ : List Int) => .agg #[.int .i64 q, u]) (l01Bad_c cv nb H1.next n k u l H3 hn hk hV (d3.rsx hsi 0 rfl) hnb (d3.src hsi) (d3.code hc hsc)) ?_
    rintro q k' u' l' H6 ⟨hq, hk', hbad, L, d4, hor⟩
    have d5 := d3.bind hsi d4
    have hu' : u'.oneCell' = true := by
      rcases hor with ⟨e, _, _⟩ | h
      · rw [e]; exact hu
      · exact d4.capOne 0 h
    have b0 := (o1.rowAt 0 rfl)
    have g0 : H6.row H.next = some ⟨26, true, [.int .i64 0, .slice none 0 0]⟩ := by
      rw [d5.lowEq (by omega) (by omega), up2.row _ (by omega)]; exact b0.1
    refine Holds.mp ?_
    try simp (disch := first | omega | (simp only [L3] <;> omega)) only [Sall,evalOp,init,binA_s,binE,binI,unE,convE,okNil,builtE,gv,TD.isAgg,resV,↓reduceIte,Nat.reduceEqDiff,reduceCtorEq,Nat.reduceAdd,Nat.reduceMul,Nat.reduceLeDiff,za0,za2,Int.reduceEq,Int.reduceLT,Int.reduceLE,Nat.reduceLT,tiA,tiXA, h2, g0, hu']
    obtain ⟨Bs, nbs, os⟩ := d5.shift (i := H.next) (by omega) [.int .i64 q, u']
    have hle := d5.le
    obtain ⟨B3, H3, o3, hold⟩ := os.alone
    refine ⟨(q, u'), rfl, k', l', hq, hk', hbad, fun Hx hx => ?_, Ow.of_up ⟨by show H.next ≤ H6.next; omega, fun i hi => ?_⟩ (d5.sc.set _ _)⟩
    · have old : ∀ i r, H3.row i = some r → Hx.row i = some r := fun i r hr => by
        obtain ⟨h1, h2⟩ := hold i r hr
        exact hx i r (by omega) h2
      rcases hor with ⟨e1, e2, e3⟩ | h
      · have hh := ((o3.capRs 0 rfl).same old).rd
        rw [← e1, ← e2, ← e3] at hh
        exact hh
      · exact ((o3.capRs 2 (by rw [List.getElem?_append_right (by simp)]; exact h)).same old).rd
    · rw [AH.setCells_row, if_neg (by omega), d5.lowEq (by omega) (by omega), up2.row _ (by omega), o1.low _ hi]
end Go.Proofs.YtemgclojolmhbaaGreat.A
end

section
set_option maxRecDepth 100000
set_option maxHeartbeats 4000000
namespace Go.Proofs.YtemgclojolmhbaaGreat.A
open Go Go.Abs Go.RowKit
def DrawnP (H : AH) (v : Value) (H' : AH) : Prop := ∃ ll : List (List Int), (ll.length ≤ 7 ∧ ∀ y ∈ ll, y.length ≤ 40) ∧ (∀ H2, (∀ i r, H.next ≤ i → H'.row i = some r → H2.row i = some r) → Rd2 1 H2 v ll) ∧ Ow H H' []
structure RkL (n k : Nat) (ll : List (List Int)) : Prop where
  len : ll.length = n
  row : ∀ i, i < n → (ll.getD i []).length = k
theorem RkL.set {n k : Nat} {ll : List (List Int)} (h : RkL n k ll) {i : Nat} {l : List Int} (hl : l.length = k) : RkL n k (ll.set i l) := by
  refine ⟨by rw [List.length_set]; exact h.len, fun j hj => ?_⟩
  by_cases e : j = i
  · subst e
    have e2 : (ll.set j l).getD j [] = l := by simp [List.getD_eq_getElem?_getD, show j < ll.length by rw [h.len]; exact hj]
    rw [e2]; exact hl
  · have e2 : (ll.set i l).getD j [] = ll.getD j [] := by simp [List.getD_eq_getElem?_getD, List.getElem?_set, Ne.symm e]
    rw [e2]; exact h.row j hj
theorem RkL.mem {n k : Nat} {ll : List (List Int)} (h : RkL n k ll) : ∀ y ∈ ll, y.length = k := fun y hy => by
  obtain ⟨i, hi, rfl⟩ := List.mem_iff_getElem.1 hy
  have := h.row i (by rw [← h.len]; exact hi)
  rw [List.getD_eq_getElem?_getD, List.getElem?_eq_getElem hi] at this
  exact this
theorem drawScheduleFor_c (cv : Value) (nb : Nat) (H : AH) (hnb : nb ≤ 4611686018427387904) (hc0 : CodeOk H cv nb) :
    ACalls Tryz.prog 16 [cv] H (DrawnP H) := by
  refine ACalls.wf (by kernel_rfl) fun hsc0 => za3 [.tmp 2] Tryz.func16 (by kernel_rfl) rfl rfl (Nat.le_of_ble_eq_true rfl) (by kernel_rfl) ?_
  refine awp_cut5 (fun t H' => ∃ (n k ri : Nat) (u : Value) (l : List Int) (H1 : AH), t 3 = .pointer (some ⟨H.next, 0, none⟩) ∧ t 4 = .int .i64 n ∧ t 5 = .pointer (some ⟨ri, 0, none⟩) ∧ (2 ≤ n ∧ n ≤ 6) ∧ (1 ≤ k ∧ k ≤ 40) ∧ VL n l ∧
    Up H.next H H1 ∧ Sc H1 ∧ H.next < H1.next ∧ CodeX cv nb H.next H1 ∧ Src cv nb H.next H1 ∧
    Dq cv nb H.next H1 H' [.cap 14 67 u k (ints l), .row ri ⟨26, true, [.int .i64 n, u]⟩]) ?_ ?_
  · have hone := hc0.one
    have hb : ∀ (t : T) (H : AH), evalOp Tryz.prog t H (.buildSlice 33 5 #[(0, .const (.int .i64 2)), (1, .const (.int .i64 4)), (2, .const (.int .i64 4)), (3, .const (.int .i64 6)), (4, .const (.int .i64 6))]) = .need (5 ≤ 16777216 ∧ 5 * 1 ≤ 16777216) (.val (.slice (some ⟨H.next, 0, some 1⟩) 5 5) (H.push ⟨2, true, ints [2, 4, 4, 6, 6]⟩)) := fun t H => by kernel_rfl
    generalize (Op.buildSlice 33 5 #[(0, .const (.int .i64 2)), (1, .const (.int .i64 4)), (2, .const (.int .i64 4)), (3, .const (.int .i64 6)), (4, .const (.int .i64 6))]) = bop at hb ⊢
    simp (config := {maxSteps := 3000000}) (disch := first | omega | (simp only [L3] <;> omega)) only [Sall,evalOp,init,binA_s,binE,binI,unE,convE,okNil,builtE,gv,TD.isAgg,resV,↓reduceIte,Nat.reduceEqDiff,reduceCtorEq,Nat.reduceAdd,Nat.reduceMul,Nat.reduceLeDiff,za0,za2,Int.reduceEq,Int.reduceLT,Int.reduceLE,Nat.reduceLT,tiA,tiXA, ↓hb, hone]
    refine (ze3 cv nb H hnb hc0).fin ?_
    rintro H1 ⟨up1, sc1, n1, s1⟩
    have hc := CodeX.of hc0 hsc0 up1
    have d0 := Dq.start s1 sc1
    refine Holds.mp ?_
    simp (config := {maxSteps := 3000000}) (disch := first | omega | (simp only [L3] <;> omega)) only [Sall,evalOp,init,binA_s,binE,binI,unE,convE,okNil,builtE,gv,TD.isAgg,resV,↓reduceIte,Nat.reduceEqDiff,reduceCtorEq,Nat.reduceAdd,Nat.reduceMul,Nat.reduceLeDiff,za0,za2,Int.reduceEq,Int.reduceLT,Int.reduceLE,Nat.reduceLT,tiA,tiXA, ↓hb]
    refine (pickL [2, 4, 4, 6, 6] 5 rfl (by omega) (by omega) d0 n1 hc sc1 hnb).ex ?_
    rintro x H7 ⟨hx, d5⟩
    have hx2 : 2 ≤ x ∧ x ≤ 6 := by
      simp only [List.mem_cons, List.not_mem_nil, or_false] at hx
      omega
    obtain ⟨n, rfl⟩ : ∃ m : Nat, x = m := ⟨x.toNat, by omega⟩
    have hm : 2 ≤ n ∧ n ≤ 14 := by omega
    refine Holds.mp ?_
    simp (config := {maxSteps := 3000000}) (disch := first | omega | (simp only [L3] <;> omega)) only [Sall,evalOp,init,binA_s,binE,binI,unE,convE,okNil,builtE,gv,TD.isAgg,resV,↓reduceIte,Nat.reduceEqDiff,reduceCtorEq,Nat.reduceAdd,Nat.reduceMul,Nat.reduceLeDiff,za0,za2,Int.reduceEq,Int.reduceLT,Int.reduceLE,Nat.reduceLT,tiA,tiXA, true_and]
    refine (ACalls.scz (zdE n hm H7)).ex ?_
    rintro w H8 ⟨⟨up3, fr3⟩, sc3⟩
    have o3 := Ow.of_fr up3 sc3 fr3
    have hw := o3.one 0 rfl
    have d6 := ((((d5.calls o3).toCap 0 rfl).push ⟨26, true, [.int .i64 0, .slice none 0 0]⟩)).putRow 1 rfl (cs' := [.int .i64 n, w])
    have hV := zfX hm
    have hk : 1 ≤ oddUp n ∧ oddUp n ≤ 13 := by unfold oddUp; omega
    refine Holds.mp ?_
    simp (config := {maxSteps := 3000000}) (disch := first | omega | (simp only [L3] <;> omega)) only [Sall,evalOp,init,binA_s,binE,binI,unE,convE,okNil,builtE,gv,TD.isAgg,resV,↓reduceIte,Nat.reduceEqDiff,reduceCtorEq,Nat.reduceAdd,Nat.reduceMul,Nat.reduceLeDiff,za0,za2,Int.reduceEq,Int.reduceLT,Int.reduceLE,Nat.reduceLT,tiA,tiXA, hw]
    have d6 : Dq cv nb H.next H1 ((H8.push ⟨26, true, [.int .i64 0, .slice none 0 0]⟩).setCells H8.next [.int .i64 n, w]) [.cap 14 67 w (oddUp n) (ints (zaW n (oddUp n))), .row H8.next ⟨26, true, [.int .i64 n, w]⟩] := d6
    obtain ⟨ri, eri⟩ : ∃ ri, ri = H8.next := ⟨_, rfl⟩
    have nri : ¬ ri = H.next := by have := d5.le; have := o3.next; omega
    rw [← eri] at d6 ⊢
    generalize (H8.push ⟨26, true, [.int .i64 0, .slice none 0 0]⟩).setCells ri [.int .i64 n, w] = H9 at d6 ⊢
    revert d6 hV hk
    generalize zaW n (oddUp n) = l
    generalize oddUp n = k
    intro hV hk d6
    refine (nextD 2 d6 n1 hc sc1 hnb (by omega)).ex ?_
    rintro y H10 ⟨hy, d7⟩
    have d7 : Dq cv nb H.next H1 H10 [.cap 14 67 w k (ints l), .row ri ⟨26, true, [.int .i64 n, w]⟩] := d7
    refine Holds.mp ?_
    by_cases c0 : (y : Int) = 0
    rotate_left
    · have f0 : ((y : Int) == 0) = false := beq_eq_false_iff_ne.2 c0
      try simp (disch := first | omega | (simp only [L3] <;> omega)) only [Sall,evalOp,init,binA_s,binE,binI,unE,convE,okNil,builtE,gv,TD.isAgg,resV,↓reduceIte,Nat.reduceEqDiff,reduceCtorEq,Nat.reduceAdd,Nat.reduceMul,Nat.reduceLeDiff,za0,za2,Int.reduceEq,Int.reduceLT,Int.reduceLE,Nat.reduceLT,tiA,tiXA, f0]
      refine ⟨n, k, ri, w, l, H1, ?_⟩
      try simp (disch := first | omega | (simp only [L3] <;> omega)) only [Sall,evalOp,init,binA_s,binE,binI,unE,convE,okNil,builtE,gv,TD.isAgg,resV,↓reduceIte,Nat.reduceEqDiff,reduceCtorEq,Nat.reduceAdd,Nat.reduceMul,Nat.reduceLeDiff,za0,za2,Int.reduceEq,Int.reduceLT,Int.reduceLE,Nat.reduceLT,tiA,tiXA, true_and]
      exact ⟨by omega, by omega, hV, up1, sc1, n1, hc, s1, d7⟩
    have f0 : ((y : Int) == 0) = true := beq_iff_eq.2 c0
    try simp (disch := first | omega | (simp only [L3] <;> omega)) only [Sall,evalOp,init,binA_s,binE,binI,unE,convE,okNil,builtE,gv,TD.isAgg,resV,↓reduceIte,Nat.reduceEqDiff,reduceCtorEq,Nat.reduceAdd,Nat.reduceMul,Nat.reduceLeDiff,za0,za2,Int.reduceEq,Int.reduceLT,Int.reduceLE,Nat.reduceLT,tiA,tiXA, f0]
    have g1 := d7.rowAt 1 rfl
    refine zc1 (fun j => j ≠ H.next) [0, 1, 2, 3, 4, 5] (by kernel_rfl) (by kernel_rfl) (by kernel_rfl) ?_
    try simp (disch := first | omega | (simp only [L3] <;> omega)) only [Sall,evalOp,init,binA_s,binE,binI,unE,convE,okNil,builtE,gv,TD.isAgg,resV,↓reduceIte,Nat.reduceEqDiff,reduceCtorEq,Nat.reduceAdd,Nat.reduceMul,Nat.reduceLeDiff,za0,za2,Int.reduceEq,Int.reduceLT,Int.reduceLE,Nat.reduceLT,tiA,tiXA, zaI, zaD, zaC, loadOk, g1, hw, nri]
    refine (zbG cv nb H.next n H10 (by omega) hnb (d7.src n1) (d7.code hc sc1)).mono ?_
    rintro pv H11 ⟨y2, B8, k8, o8, hp⟩
    rw [Int.toNat_natCast] at o8 hp
    have d8 := d7.call n1 k8 o8
    have hpo := o8.one 0 rfl
    refine ⟨.inr (.inr (les_of k8 o8 d7.sc)), ?_⟩
    try simp (disch := first | omega | (simp only [L3] <;> omega)) only [Sall,evalOp,init,binA_s,binE,binI,unE,convE,okNil,builtE,gv,TD.isAgg,resV,↓reduceIte,Nat.reduceEqDiff,reduceCtorEq,Nat.reduceAdd,Nat.reduceMul,Nat.reduceLeDiff,za0,za2,Int.reduceEq,Int.reduceLT,Int.reduceLE,Nat.reduceLT,tiA,tiXA, zaI, zaD, zaC, loadOk, hpo, hw, nri]
    refine (zc7 n k w pv l y2 H11 (by omega) (by omega) (d8.capRs 0 rfl).rd hV (d8.rd 2 rfl) hp.rng).mono ?_
    rintro rr H12 ⟨u2, l2, er, o9, hV2⟩
    have d9 := (d8.calls o9).toCap 3 rfl
    have hu2 := o9.one 0 rfl
    have g1' := d9.rowAt 1 rfl
    refine ⟨.inr (.inr (LE.les (o9.up.le d8.sc))), ?_⟩
    try simp (disch := first | omega | (simp only [L3] <;> omega)) only [Sall,evalOp,init,binA_s,binE,binI,unE,convE,okNil,builtE,gv,TD.isAgg,resV,↓reduceIte,Nat.reduceEqDiff,reduceCtorEq,Nat.reduceAdd,Nat.reduceMul,Nat.reduceLeDiff,za0,za2,Int.reduceEq,Int.reduceLT,Int.reduceLE,Nat.reduceLT,tiA,tiXA, zaI, zaD, zaC, loadOk, er, hu2, g1', nri]
    refine ⟨.inr (.inl (by kernel_rfl)), n, k, ri, u2, l2, H1, ?_⟩
    try simp (disch := first | omega | (simp only [L3] <;> omega)) only [Sall,evalOp,init,binA_s,binE,binI,unE,convE,okNil,builtE,gv,TD.isAgg,resV,↓reduceIte,Nat.reduceEqDiff,reduceCtorEq,Nat.reduceAdd,Nat.reduceMul,Nat.reduceLeDiff,za0,za2,Int.reduceEq,Int.reduceLT,Int.reduceLE,Nat.reduceLT,tiA,tiXA, true_and]
    exact ⟨by omega, by omega, hV2, up1, sc1, n1, hc, s1, (d9.putRow 1 rfl).map fun B o => Ow.pick2 o 3 1 rfl rfl (by decide)⟩
  · rintro t H3 ⟨n, k, ri, u, l, H1, h3, h4, h5, hn, hk, hV, up1, hsc, hsi, hc, hs, d1⟩
    have g1 := d1.rowAt 1 rfl
    have hu := d1.capOne 0 rfl
    try simp (disch := first | omega | (simp only [L3] <;> omega)) only [Sall,evalOp,init,binA_s,binE,binI,unE,convE,okNil,builtE,gv,TD.isAgg,resV,↓reduceIte,Nat.reduceEqDiff,reduceCtorEq,Nat.reduceAdd,Nat.reduceMul,Nat.reduceLeDiff,za0,za2,Int.reduceEq,Int.reduceLT,Int.reduceLE,Nat.reduceLT,tiA,tiXA, h3, h4, h5, g1, hu]
    refine (zd4 cv nb H.next n k u l H3 (by omega) hk.2 hV (d1.rsx hsi 0 rfl) hnb (d1.src hsi) (d1.code hc hsc)).mono ?_
    rintro w H4 ⟨vv, hVn, hv0, e4⟩
    have d2 := d1.bind hsi e4
    have hw := (d2.rd2 2 rfl).one
    obtain ⟨kk, ekk⟩ : ∃ kk, kk = vv.length := ⟨_, rfl⟩
    have hkk : 0 < kk ∧ kk ≤ 40 := ⟨by rw [ekk]; exact hv0 (by omega), by rw [ekk]; exact hVn.len⟩
    have d2 : Dq cv nb H.next H1 H4 [.see (Rd2 1 · w vv)] := d2.map fun B o => (o.toSee 2 rfl fun H S hp => zf0 hp).only 2 rfl
    have zz : zeros 1 [.slice none 0 0] = [.slice none 0 0] := rfl
    have d3 := d2.map fun B o => o.pushSl2 (Value.int .i64) 33 2
    refine Holds.mp ?_
    try simp (disch := first | omega | (simp only [L3] <;> omega)) only [Sall,evalOp,init,binA_s,binE,binI,unE,convE,okNil,builtE,gv,TD.isAgg,resV,↓reduceIte,Nat.reduceEqDiff,reduceCtorEq,Nat.reduceAdd,Nat.reduceMul,Nat.reduceLeDiff,za0,za2,Int.reduceEq,Int.reduceLT,Int.reduceLE,Nat.reduceLT,tiA,tiXA, hw, zaV]
    refine za5 (fun m t H' => ∃ (a : Nat) (o : Value) (ll : List (List Int)), m = n - a ∧ a ≤ n ∧ t 8 = .int .i64 a ∧ t 3 = .pointer (some ⟨H.next, 0, none⟩) ∧ t 4 = .int .i64 n ∧ t 6 = w ∧ t 7 = o ∧ RkL a kk ll ∧ Dq cv nb H.next H1 H' [.see (Rd2 1 · w vv), .sl2 (Value.int .i64) 33 2 o ll]) n ?_ ?_
    · refine ⟨0, .slice (some ⟨H4.next, 0, some 1⟩) 0 0, [], by omega, by omega, ?_⟩
      try simp (disch := first | omega | (simp only [L3] <;> omega)) only [Sall,evalOp,init,binA_s,binE,binI,unE,convE,okNil,builtE,gv,TD.isAgg,resV,↓reduceIte,Nat.reduceEqDiff,reduceCtorEq,Nat.reduceAdd,Nat.reduceMul,Nat.reduceLeDiff,za0,za2,Int.reduceEq,Int.reduceLT,Int.reduceLE,Nat.reduceLT,tiA,tiXA, Int.natCast_zero, h3, h4]
      exact ⟨⟨rfl, fun i hi => by omega⟩, d3⟩
    · rintro m t H5 ⟨a, ov, ll, hm, ha, h8, h3, h4, h6, h7, hR, d4⟩
      have hvr := d4.sees 0 rfl
      have hov := (d4.rd2 1 rfl).one
      try simp (disch := first | omega | (simp only [L3] <;> omega)) only [Sall,evalOp,init,binA_s,binE,binI,unE,convE,okNil,builtE,gv,TD.isAgg,resV,↓reduceIte,Nat.reduceEqDiff,reduceCtorEq,Nat.reduceAdd,Nat.reduceMul,Nat.reduceLeDiff,za0,za2,Int.reduceEq,Int.reduceLT,Int.reduceLE,Nat.reduceLT,tiA,tiXA, h8, h4]
      refine za4 (fun hh => ?_) (fun hh => ?_)
      · have han : a < n := by omega
        have wa : IntKind.i64.wrap ((a : Int) + 1) = ((a + 1 : Nat) : Int) := w64 ⟨by omega, by omega⟩
        have hrl := hR.len
        try simp (disch := first | omega | (simp only [L3] <;> omega)) only [Sall,evalOp,init,binA_s,binE,binI,unE,convE,okNil,builtE,gv,TD.isAgg,resV,↓reduceIte,Nat.reduceEqDiff,reduceCtorEq,Nat.reduceAdd,Nat.reduceMul,Nat.reduceLeDiff,za0,za2,Int.reduceEq,Int.reduceLT,Int.reduceLE,Nat.reduceLT,tiA,tiXA, h8, h6, h7]
        refine (zeI w vv a H5 hvr (by omega) (fun i hi => by rw [(hVn.row i hi).1]; exact han)).mono ?_
        intro pv H6 o6
        have hpo := o6.one 0 rfl
        have d5 := d4.calls o6
        refine Holds.mp ?_
        try simp (disch := first | omega | (simp only [L3] <;> omega)) only [Sall,evalOp,init,binA_s,binE,binI,unE,convE,okNil,builtE,gv,TD.isAgg,resV,↓reduceIte,Nat.reduceEqDiff,reduceCtorEq,Nat.reduceAdd,Nat.reduceMul,Nat.reduceLeDiff,za0,za2,Int.reduceEq,Int.reduceLT,Int.reduceLE,Nat.reduceLT,tiA,tiXA, hpo, zbB hpo, zb0 hpo, zb9 hpo, zz, zaL]
        have hok := fun r => ok_one (r := r) hpo
        try simp (disch := first | omega | (simp only [L3] <;> omega)) only [Sall,evalOp,init,binA_s,binE,binI,unE,convE,okNil,builtE,gv,TD.isAgg,resV,↓reduceIte,Nat.reduceEqDiff,reduceCtorEq,Nat.reduceAdd,Nat.reduceMul,Nat.reduceLeDiff,za0,za2,Int.reduceEq,Int.reduceLT,Int.reduceLE,Nat.reduceLT,tiA,tiXA, hok]
        obtain ⟨B, hB, o7⟩ := id d5.ex
        refine (o7.tmp ⟨33, true, [pv]⟩).app2 (l := patL vv a) 1 2 rfl rfl (by omega) rfl (by decide) (by omega) ?_
        intro v' H8 n8 o8
        try simp (disch := first | omega | (simp only [L3] <;> omega)) only [Sall,evalOp,init,binA_s,binE,binI,unE,convE,okNil,builtE,gv,TD.isAgg,resV,↓reduceIte,Nat.reduceEqDiff,reduceCtorEq,Nat.reduceAdd,Nat.reduceMul,Nat.reduceLeDiff,za0,za2,Int.reduceEq,Int.reduceLT,Int.reduceLE,Nat.reduceLT,tiA,tiXA, h8, h3, h4, h6, wa]
        refine ⟨n - (a + 1), by omega, a + 1, v', ll ++ [patL vv a], rfl, by omega, rfl, rfl, ⟨by rw [List.length_append, hrl]; rfl, fun i hi => ?_⟩, ⟨⟨B, hB, o8.pick2 0 1 rfl rfl (by omega)⟩⟩⟩
        by_cases e : i = a
        · have e2 : (ll ++ [patL vv a]).getD i [] = patL vv a := by rw [e, ← hrl]; simp [List.getD_eq_getElem?_getD]
          rw [e2, zbY, ekk]
        · have e2 : (ll ++ [patL vv a]).getD i [] = ll.getD i [] := by simp [List.getD_eq_getElem?_getD, List.getElem?_append_left (show i < ll.length by omega)]
          rw [e2]; exact hR.row i (by omega)
      · have hae : a = n := by omega
        rw [hae] at hR
        try simp (disch := first | omega | (simp only [L3] <;> omega)) only [Sall,evalOp,init,binA_s,binE,binI,unE,convE,okNil,builtE,gv,TD.isAgg,resV,↓reduceIte,Nat.reduceEqDiff,reduceCtorEq,Nat.reduceAdd,Nat.reduceMul,Nat.reduceLeDiff,za0,za2,Int.reduceEq,Int.reduceLT,Int.reduceLE,Nat.reduceLT,tiA,tiXA, h3]
        refine (nextD 8 d4 hsi hc hsc hnb (by omega)).ex ?_
        rintro y H6 ⟨hy, d5⟩
        have d5 : Dq cv nb H.next H1 H6 [.sl2 (Value.int .i64) 33 2 ov ll] := d5.map fun B o => o.only 1 rfl
        refine Holds.mp ?_
        have hov := (d5.rd2 0 rfl).one
        have hlo := (d5.rd2 0 rfl).len
        rw [hR.len] at hlo
        have fin : ∀ (Hx : AH) (v : Value) (L : List (List Int)), (L.length ≤ 7 ∧ ∀ y ∈ L, y.length ≤ 40) → Dq cv nb H.next H1 Hx [.sl2 (Value.int .i64) 33 2 v L] → DrawnP H v Hx := by
          intro Hx v L hL d
          refine ⟨L, hL, fun H2 h2 => ?_, Ow.left (L := []) (Dr.fin ⟨d.ex⟩ up1)⟩
          obtain ⟨S, hS⟩ := d.laterP hsi 0 rfl H2 fun i r h1 h3 hr => h2 i r (by have := up1.next; omega) hr
          exact zf0 hS
        have hLn : ∀ {L : List (List Int)}, RkL n kk L → L.length ≤ 7 ∧ ∀ y ∈ L, y.length ≤ 40 := fun h => ⟨by rw [h.len]; omega, fun y hy => by rw [h.mem y hy]; omega⟩
        obtain ⟨B, hB, o5⟩ := id d5.ex
        obtain ⟨wi, vs, xq, hwi, _, ew, hr, hvl, hxx, hx1, hq⟩ := o5.get2 0 rfl (j := 0) (by rw [hR.len]; omega)
        have hws : wi ≠ H.next := by have := hB.next; omega
        have hwl : wi < H6.next := o5.sc _ _ hr
        rw [hR.len] at ew hvl
        rw [hR.row 0 (by omega)] at hq
        obtain ⟨q, _, _, qi, rfl, hqr⟩ := hq (by omega)
        have e00 : Int.toNat 0 = 0 := rfl
        have h0n : (0 : Int) < (n : Int) := by omega
        have hv0 : 0 < vs.length := by omega
        by_cases c0 : (y : Int) = 0
        · have f0 : ((y : Int) == 0) = true := beq_iff_eq.2 c0
          have hb : ∀ (t : T) (H : AH), evalOp Tryz.prog t H (.buildSlice 33 4 #[(0, .const (.int .i64 0)), (1, .const (.int .i64 1)), (2, .const (.int .i64 2)), (3, .const (.int .i64 (-1)))]) = .need (4 ≤ 16777216 ∧ 4 * 1 ≤ 16777216) (.val (.slice (some ⟨H.next, 0, some 1⟩) 4 4) (H.push ⟨2, true, ints [0, 1, 2, -1]⟩)) := fun t H => by kernel_rfl
          generalize (Op.buildSlice 33 4 #[(0, .const (.int .i64 0)), (1, .const (.int .i64 1)), (2, .const (.int .i64 2)), (3, .const (.int .i64 (-1)))]) = bop at hb ⊢
          simp (config := {maxSteps := 3000000}) (disch := first | omega | (simp only [L3] <;> omega)) only [Sall,evalOp,init,binA_s,binE,binI,unE,convE,okNil,builtE,gv,TD.isAgg,resV,↓reduceIte,Nat.reduceEqDiff,reduceCtorEq,Nat.reduceAdd,Nat.reduceMul,Nat.reduceLeDiff,za0,za2,Int.reduceEq,Int.reduceLT,Int.reduceLE,Nat.reduceLT,tiA,tiXA, ↓hb, f0, h7, h3, ew, hr, hxx, h0n, hv0, e00]
          refine (pickM [0, 1, 2, -1] 4 rfl (by omega) (by omega) d5 hsi hc hsc hnb).ex ?_
          rintro p H7 ⟨hp, hrow7, d6⟩
          have hr7 : H7.row wi = some ⟨33, true, vs⟩ := by rw [hrow7 wi hws hwl]; exact hr
          obtain ⟨B7, hB7, o7⟩ := id d6.ex
          obtain ⟨wi', vs', x', _, _, ew', hr', hvl', hxx', hx1', hq⟩ := o7.get2 0 rfl (j := 0) (by rw [hR.len]; omega)
          rw [ew] at ew'
          simp only [Value.slice.injEq, Option.some.injEq, Addr.mk.injEq] at ew'
          obtain ⟨⟨rfl, _⟩, _⟩ := ew'
          rw [hr7] at hr'
          simp only [Option.some.injEq, Row.mk.injEq, true_and] at hr'
          subst hr'
          rw [hxx] at hxx'
          have hxx' := Option.some.inj hxx'
          rw [hR.row 0 (by omega)] at hq
          obtain ⟨q', _, _, _, eq', hqr7⟩ := hq (by omega)
          rw [← hxx'] at eq'
          simp only [Value.slice.injEq, Option.some.injEq, Addr.mk.injEq] at eq'
          obtain ⟨⟨rfl, _⟩, _⟩ := eq'
          have hqr7 : H7.row q = some ⟨2, true, ints (ll.getD 0 [])⟩ := hqr7
          have hkk0 : (0 : Int) < (kk : Int) := by omega
          have hl0 : 0 < (ll.getD 0 []).length := by rw [hR.row 0 (by omega)]; omega
          refine Holds.mp ?_
          simp (config := {maxSteps := 3000000}) (disch := first | omega | (simp only [L3] <;> omega)) only [Sall,evalOp,init,binA_s,binE,binI,unE,convE,okNil,builtE,gv,TD.isAgg,resV,↓reduceIte,Nat.reduceEqDiff,reduceCtorEq,Nat.reduceAdd,Nat.reduceMul,Nat.reduceLeDiff,za0,za2,Int.reduceEq,Int.reduceLT,Int.reduceLE,Nat.reduceLT,tiA,tiXA, hqr7, e00, hkk0, hl0, zaR, h7]
          refine fin _ ov (ll.set 0 ((ll.getD 0 []).set 0 p)) (hLn (hR.set (by rw [List.length_set]; exact hR.row 0 (by omega)))) (d6.map fun B o => ?_)
          rw [ew] at o ⊢
          exact o.set2 0 rfl (j := 0) (by rw [hR.len]; omega) (l' := (ll.getD 0 []).set 0 p) (by rw [List.length_set]) hr7 hxx
        have f0 : ((y : Int) == 0) = false := beq_eq_false_iff_ne.2 c0
        by_cases c1 : (y : Int) = 1
        · have f1 : ((y : Int) == 1) = true := beq_iff_eq.2 c1
          have z1 : zeros 1 [.int .i64 0] = [.int .i64 0] := rfl
          simp (config := {maxSteps := 3000000}) (disch := first | omega | (simp only [L3] <;> omega)) only [Sall,evalOp,init,binA_s,binE,binI,unE,convE,okNil,builtE,gv,TD.isAgg,resV,↓reduceIte,Nat.reduceEqDiff,reduceCtorEq,Nat.reduceAdd,Nat.reduceMul,Nat.reduceLeDiff,za0,za2,Int.reduceEq,Int.reduceLT,Int.reduceLE,Nat.reduceLT,tiA,tiXA, f0, f1, h7, zz, z1, zaL]
          refine ((o5.pushSl (k := 1) (n := 1) (ty := 2) (vs := ints [0]) rfl).tmp ⟨33, true, [.slice (some ⟨H6.next, 0, some 1⟩) 1 1]⟩).app2 (l := [0]) 0 1 rfl rfl (by omega) rfl (by decide) (by rw [hR.len]; omega) ?_
          intro v' H8 n8 o8
          have hv' := (o8.rd2 0 rfl).one
          simp (config := {maxSteps := 3000000}) (disch := first | omega | (simp only [L3] <;> omega)) only [Sall,evalOp,init,binA_s,binE,binI,unE,convE,okNil,builtE,gv,TD.isAgg,resV,↓reduceIte,Nat.reduceEqDiff,reduceCtorEq,Nat.reduceAdd,Nat.reduceMul,Nat.reduceLeDiff,za0,za2,Int.reduceEq,Int.reduceLT,Int.reduceLE,Nat.reduceLT,tiA,tiXA, hv']
          refine fin _ v' (ll ++ [[0]]) ⟨by rw [List.length_append, hR.len]; show n + 1 ≤ 7; omega, fun y hy => ?_⟩ ⟨⟨B, hB, o8.only 0 rfl⟩⟩
          rcases List.mem_append.1 hy with h | h
          · rw [hR.mem y h]; omega
          · rw [List.mem_singleton] at h; rw [h]; simp
        have f1 : ((y : Int) == 1) = false := beq_eq_false_iff_ne.2 c1
        by_cases c2 : (y : Int) = 2
        rotate_left
        · have f2 : ((y : Int) == 2) = false := beq_eq_false_iff_ne.2 c2
          simp (config := {maxSteps := 3000000}) (disch := first | omega | (simp only [L3] <;> omega)) only [Sall,evalOp,init,binA_s,binE,binI,unE,convE,okNil,builtE,gv,TD.isAgg,resV,↓reduceIte,Nat.reduceEqDiff,reduceCtorEq,Nat.reduceAdd,Nat.reduceMul,Nat.reduceLeDiff,za0,za2,Int.reduceEq,Int.reduceLT,Int.reduceLE,Nat.reduceLT,tiA,tiXA, f0, f1, f2, h7, hov]
          exact fin _ ov ll (hLn hR) d5
        have f2 : ((y : Int) == 2) = true := beq_iff_eq.2 c2
        simp (config := {maxSteps := 3000000}) (disch := first | omega | (simp only [L3] <;> omega)) only [Sall,evalOp,init,binA_s,binE,binI,unE,convE,okNil,builtE,gv,TD.isAgg,resV,↓reduceIte,Nat.reduceEqDiff,reduceCtorEq,Nat.reduceAdd,Nat.reduceMul,Nat.reduceLeDiff,za0,za2,Int.reduceEq,Int.reduceLT,Int.reduceLE,Nat.reduceLT,tiA,tiXA, f0, f1, f2, h7, builtE, hlo]
        refine za5 (fun m t H' => ∃ (a : Nat) (L : List (List Int)), m = n - a ∧ a ≤ n ∧ t 65 = .int .i64 a ∧ t 64 = .int .i64 n ∧ t 3 = .pointer (some ⟨H.next, 0, none⟩) ∧ t 7 = ov ∧ RkL n kk L ∧ H'.row wi = some ⟨33, true, vs⟩ ∧ Dq cv nb H.next H1 H' [.sl2 (Value.int .i64) 33 2 ov L]) n ?_ ?_
        · refine ⟨0, ll, by omega, by omega, ?_⟩
          try simp (disch := first | omega | (simp only [L3] <;> omega)) only [Sall,evalOp,init,binA_s,binE,binI,unE,convE,okNil,builtE,gv,TD.isAgg,resV,↓reduceIte,Nat.reduceEqDiff,reduceCtorEq,Nat.reduceAdd,Nat.reduceMul,Nat.reduceLeDiff,za0,za2,Int.reduceEq,Int.reduceLT,Int.reduceLE,Nat.reduceLT,tiA,tiXA, Int.natCast_zero, h3, h7]
          exact ⟨hR, hr, d5⟩
        · clear h8 h3 h4 h6 h7 hlo hov hqr hvr hh hm ha
          rintro m t H7 ⟨a2, L, hm, ha2, h65, h64, h3, h7, hR, hr, d6⟩
          try simp (disch := first | omega | (simp only [L3] <;> omega)) only [Sall,evalOp,init,binA_s,binE,binI,unE,convE,okNil,builtE,gv,TD.isAgg,resV,↓reduceIte,Nat.reduceEqDiff,reduceCtorEq,Nat.reduceAdd,Nat.reduceMul,Nat.reduceLeDiff,za0,za2,Int.reduceEq,Int.reduceLT,Int.reduceLE,Nat.reduceLT,tiA,tiXA, h65, h64]
          refine za4 (fun hh => ?_) (fun hh => ?_)
          · have han : a2 < n := by omega
            have ga : (0 : Int) ≤ (a2 : Int) := by omega
            have ga2 : (a2 : Int) < (n : Int) := by omega
            have wa : IntKind.i64.wrap ((a2 : Int) + 1) = ((a2 + 1 : Nat) : Int) := w64 ⟨by omega, by omega⟩
            have hdec : n - (a2 + 1) < m := by omega
            obtain ⟨B, hB, o6⟩ := id d6.ex
            obtain ⟨wi', vs', x', _, _, ew', hr', hvl', hxa, hx1', hq⟩ := o6.get2 0 rfl (j := a2) (by rw [hR.len]; omega)
            rw [ew, hR.len] at ew'
            simp only [Value.slice.injEq, Option.some.injEq, Addr.mk.injEq] at ew'
            obtain ⟨⟨rfl, _⟩, _⟩ := ew'
            rw [hr] at hr'
            simp only [Option.some.injEq, Row.mk.injEq, true_and] at hr'
            subst hr'
            rw [hR.row a2 han] at hq
            obtain ⟨qa, _, _, hqw, rfl, hqr⟩ := hq (by omega)
            have hva : a2 < vs.length := by omega
            try simp (disch := first | omega | (simp only [L3] <;> omega)) only [Sall,evalOp,init,binA_s,binE,binI,unE,convE,okNil,builtE,gv,TD.isAgg,resV,↓reduceIte,Nat.reduceEqDiff,reduceCtorEq,Nat.reduceAdd,Nat.reduceMul,Nat.reduceLeDiff,za0,za2,Int.reduceEq,Int.reduceLT,Int.reduceLE,Nat.reduceLT,tiA,tiXA, h65, h64, h7, ew, hr, hxa, hva, ga, ga2, builtE]
            refine za5 (fun m' t Hx => ∃ (i : Nat) (L : List (List Int)), m' = kk - i ∧ i ≤ kk ∧ t 74 = .int .i64 i ∧ t 73 = .int .i64 kk ∧ t 11 = .slice (some ⟨qa, 0, some 1⟩) kk kk ∧ t 65 = .int .i64 a2 ∧ t 64 = .int .i64 n ∧ t 3 = .pointer (some ⟨H.next, 0, none⟩) ∧ t 7 = ov ∧ RkL n kk L ∧ Hx.row wi = some ⟨33, true, vs⟩ ∧ Dq cv nb H.next H1 Hx [.sl2 (Value.int .i64) 33 2 ov L]) kk ?_ ?_
            · refine ⟨0, L, by omega, by omega, ?_⟩
              try simp (disch := first | omega | (simp only [L3] <;> omega)) only [Sall,evalOp,init,binA_s,binE,binI,unE,convE,okNil,builtE,gv,TD.isAgg,resV,↓reduceIte,Nat.reduceEqDiff,reduceCtorEq,Nat.reduceAdd,Nat.reduceMul,Nat.reduceLeDiff,za0,za2,Int.reduceEq,Int.reduceLT,Int.reduceLE,Nat.reduceLT,tiA,tiXA, Int.natCast_zero, h65, h64, h3, h7, ← ew]
              exact ⟨hR, hr, d6⟩
            · clear h65 h64 h3 h7 hqr hh
              rintro m' t Hx ⟨i, L, hm', hi, h74, h73, h11, h65, h64, h3, h7, hR, hr, d7⟩
              try simp (disch := first | omega | (simp only [L3] <;> omega)) only [Sall,evalOp,init,binA_s,binE,binI,unE,convE,okNil,builtE,gv,TD.isAgg,resV,↓reduceIte,Nat.reduceEqDiff,reduceCtorEq,Nat.reduceAdd,Nat.reduceMul,Nat.reduceLeDiff,za0,za2,Int.reduceEq,Int.reduceLT,Int.reduceLE,Nat.reduceLT,tiA,tiXA, h74, h73]
              refine za4 (fun hh2 => ?_) (fun hh2 => ?_)
              · have hik : i < kk := by omega
                have hdec2 : kk - (i + 1) < m' := by omega
                have gi : (0 : Int) ≤ (i : Int) := by omega
                have gi2 : (i : Int) < (kk : Int) := by omega
                have wi1 : IntKind.i64.wrap ((i : Int) + 1) = ((i + 1 : Nat) : Int) := w64 ⟨by omega, by omega⟩
                try simp (disch := first | omega | (simp only [L3] <;> omega)) only [Sall,evalOp,init,binA_s,binE,binI,unE,convE,okNil,builtE,gv,TD.isAgg,resV,↓reduceIte,Nat.reduceEqDiff,reduceCtorEq,Nat.reduceAdd,Nat.reduceMul,Nat.reduceLeDiff,za0,za2,Int.reduceEq,Int.reduceLT,Int.reduceLE,Nat.reduceLT,tiA,tiXA, h74, h11, h3]
                refine (zc0 cv nb H.next 2 Hx (by omega) hnb (d7.src hsi) (d7.code hc hsc)).mono ?_
                rintro v8 H8 ⟨z, ev8, hz, hS⟩
                have d8 : Dq cv nb H.next H1 H8 [.sl2 (Value.int .i64) 33 2 ov L] := d7.next hsi hS
                have hr8 : H8.row wi = some ⟨33, true, vs⟩ := by rw [hS.row wi hws]; exact hr
                obtain ⟨B, hB, o8⟩ := id d8.ex
                obtain ⟨wi'', vs'', x'', _, _, ew'', hr'', hvl'', hxa', hx1'', hq⟩ := o8.get2 0 rfl (j := a2) (by rw [hR.len]; omega)
                rw [ew, hR.len] at ew''
                simp only [Value.slice.injEq, Option.some.injEq, Addr.mk.injEq] at ew''
                obtain ⟨⟨rfl, _⟩, _⟩ := ew''
                rw [hr8] at hr''
                simp only [Option.some.injEq, Row.mk.injEq, true_and] at hr''
                subst hr''
                rw [hxa] at hxa'
                have hxa' := Option.some.inj hxa'
                rw [hR.row a2 han] at hq
                obtain ⟨q', _, _, _, eq', hqr8⟩ := hq (by omega)
                rw [← hxa'] at eq'
                simp only [Value.slice.injEq, Option.some.injEq, Addr.mk.injEq] at eq'
                obtain ⟨⟨rfl, _⟩, _⟩ := eq'
                have hqr8 : H8.row qa = some ⟨2, true, ints (L.getD a2 [])⟩ := hqr8
                have hil : i < (L.getD a2 []).length := by rw [hR.row a2 han]; exact hik
                have nwq : ¬ wi = qa := Ne.symm hqw
                refine Holds.mp ?_
                try simp (disch := first | omega | (simp only [L3] <;> omega)) only [Sall,evalOp,init,binA_s,binE,binI,unE,convE,okNil,builtE,gv,TD.isAgg,resV,↓reduceIte,Nat.reduceEqDiff,reduceCtorEq,Nat.reduceAdd,Nat.reduceMul,Nat.reduceLeDiff,za0,za2,Int.reduceEq,Int.reduceLT,Int.reduceLE,Nat.reduceLT,tiA,tiXA, ev8, hqr8, gi, gi2, hil, h74, wi1, zaR]
                rw [if_neg nwq]
                refine ⟨kk - (i + 1), hdec2, i + 1, L.set a2 ((L.getD a2 []).set i z), rfl, by omega, rfl, h73, h11, h65, h64, h3, h7, hR.set (by rw [List.length_set]; exact hR.row a2 han), hr8, d8.map fun B o => ?_⟩
                rw [ew] at o ⊢
                exact o.set2 0 rfl (j := a2) (by rw [hR.len]; omega) (l' := (L.getD a2 []).set i z) (by rw [List.length_set]) hr8 hxa
              · try simp (disch := first | omega | (simp only [L3] <;> omega)) only [Sall,evalOp,init,binA_s,binE,binI,unE,convE,okNil,builtE,gv,TD.isAgg,resV,↓reduceIte,Nat.reduceEqDiff,reduceCtorEq,Nat.reduceAdd,Nat.reduceMul,Nat.reduceLeDiff,za0,za2,Int.reduceEq,Int.reduceLT,Int.reduceLE,Nat.reduceLT,tiA,tiXA, h65, wa]
                exact ⟨n - (a2 + 1), hdec, a2 + 1, L, rfl, by omega, rfl, h64, h3, h7, hR, hr, d7⟩
          · have hov := (d6.rd2 0 rfl).one
            try simp (disch := first | omega | (simp only [L3] <;> omega)) only [Sall,evalOp,init,binA_s,binE,binI,unE,convE,okNil,builtE,gv,TD.isAgg,resV,↓reduceIte,Nat.reduceEqDiff,reduceCtorEq,Nat.reduceAdd,Nat.reduceMul,Nat.reduceLeDiff,za0,za2,Int.reduceEq,Int.reduceLT,Int.reduceLE,Nat.reduceLT,tiA,tiXA, h7, hov]
            exact fin _ ov L (hLn hR) d6
end Go.Proofs.YtemgclojolmhbaaGreat.A
end

section
set_option maxRecDepth 100000
set_option maxHeartbeats 2000000
namespace Go.Proofs.YtemgclojolmhbaaGreat.A
open Go Go.Abs Go.RowKit
theorem schedules5_c (q : Int) (u w : Value) (k : Nat) (l : List Int) (H : AH) (hk : k ≤ 4294967296) (ha : Rd 14 H u k l) (hb : Rd 14 H w k l) :
    ACalls Tryz.prog 19 [.agg #[.int .i64 q, u], .agg #[.int .i64 q, w]] H (is (.bool true) H) := by
  refine zaY rfl (ACalls.wf (by kernel_rfl) fun hs => za3 [.tmp 4] Tryz.func19 (by kernel_rfl) rfl rfl (Nat.le_of_ble_eq_true rfl) (by kernel_rfl) ?_)
  have h1 := ha.one
  have h2 := hb.one
  have la := ha.len
  have lb := hb.len
  have up : Up H.next H ((H.push ⟨26, true, [.int .i64 q, u]⟩).push ⟨26, true, [.int .i64 q, w]⟩) := ((Up.refl _ H).push (Nat.le_refl _) _).push (Nat.le_succ _) _
  have g0 : ((H.push ⟨26, true, [.int .i64 q, u]⟩).push ⟨26, true, [.int .i64 q, w]⟩).row H.next = some ⟨26, true, [.int .i64 q, u]⟩ := by
    rw [AH.push_row, AH.push_next, if_neg (by omega), AH.push_row, if_pos rfl]
  have g1 : ((H.push ⟨26, true, [.int .i64 q, u]⟩).push ⟨26, true, [.int .i64 q, w]⟩).row (H.next + 1) = some ⟨26, true, [.int .i64 q, w]⟩ := by
    rw [AH.push_row, AH.push_next, if_pos rfl]
  try simp (disch := first | omega | (simp only [L3] <;> omega)) only [Sall,evalOp,init,binA_s,binE,binI,unE,convE,okNil,builtE,gv,TD.isAgg,resV,↓reduceIte,Nat.reduceEqDiff,reduceCtorEq,Nat.reduceAdd,Nat.reduceMul,Nat.reduceLeDiff,za0,za2,Int.reduceEq,Int.reduceLT,Int.reduceLE,Nat.reduceLT,tiA,tiXA, h1, h2]
  generalize (H.push ⟨26, true, [.int .i64 q, u]⟩).push ⟨26, true, [.int .i64 q, w]⟩ = H1 at up g0 g1 ⊢
  have ha1 := ha.same (up.le hs).row
  have hb1 := hb.same (up.le hs).row
  try simp (disch := first | omega | (simp only [L3] <;> omega)) only [Sall,evalOp,init,binA_s,binE,binI,unE,convE,okNil,builtE,gv,TD.isAgg,resV,↓reduceIte,Nat.reduceEqDiff,reduceCtorEq,Nat.reduceAdd,Nat.reduceMul,Nat.reduceLeDiff,za0,za2,Int.reduceEq,Int.reduceLT,Int.reduceLE,Nat.reduceLT,tiA,tiXA, g0, g1, h1, h2, la, lb, builtE, bne_self_eq_false]
  refine za5 (fun z t Hx => H1 = Hx ∧ ∃ i : Nat, z = k - i ∧ i ≤ k ∧ t 5 = .int .i64 i ∧ t 2 = .pointer (some ⟨H.next, 0, none⟩) ∧ t 3 = .pointer (some ⟨H.next + 1, 0, none⟩)) k ?_ ?_
  · refine ⟨rfl, 0, by omega, by omega, ?_⟩
    try simp (disch := first | omega | (simp only [L3] <;> omega)) only [Sall,evalOp,init,binA_s,binE,binI,unE,convE,okNil,builtE,gv,TD.isAgg,resV,↓reduceIte,Nat.reduceEqDiff,reduceCtorEq,Nat.reduceAdd,Nat.reduceMul,Nat.reduceLeDiff,za0,za2,Int.reduceEq,Int.reduceLT,Int.reduceLE,Nat.reduceLT,tiA,tiXA, Int.natCast_zero]
  · rintro z t Hx ⟨rfl, i, hz, hi, h5, h2', h3⟩
    try simp (disch := first | omega | (simp only [L3] <;> omega)) only [Sall,evalOp,init,binA_s,binE,binI,unE,convE,okNil,builtE,gv,TD.isAgg,resV,↓reduceIte,Nat.reduceEqDiff,reduceCtorEq,Nat.reduceAdd,Nat.reduceMul,Nat.reduceLeDiff,za0,za2,Int.reduceEq,Int.reduceLT,Int.reduceLE,Nat.reduceLT,tiA,tiXA, h5, h2', g0, h1, builtE, la]
    refine za4 (fun hh => ?_) (fun hh => ?_)
    · obtain ⟨ci, co, cu, cc, cr, ec, c1, c2, c3, c4⟩ := ha1.get (show 0 < k by omega)
      obtain ⟨di, dd, du, dc, dr, ed, d1, d2, d3, d4⟩ := hb1.get (show 0 < k by omega)
      have c5 := c4 (i * 14) 14 (by omega)
      have d5 := d4 (i * 14) 14 (by omega)
      have hr14 : ((l.drop (i * 14)).take 14).length = 14 := zbF l i k ha.1 (by omega)
      have lg : co + i * 14 + 14 ≤ cr.cells.length := by omega
      have lg2 : dd + i * 14 + 14 ≤ dr.cells.length := by omega
      obtain ⟨r, er⟩ : ∃ r, r = (l.drop (i * 14)).take 14 := ⟨_, rfl⟩
      rw [← er] at hr14 c5 d5
      have ag : aggI (ints r) = r := by
        unfold aggI ints
        rw [List.map_map]
        exact (List.map_congr_left fun x _ => rfl).trans (List.map_id r)
      try simp (disch := first | omega | (simp only [L3] <;> omega)) only [Sall,evalOp,init,binA_s,binE,binI,unE,convE,okNil,builtE,gv,TD.isAgg,resV,↓reduceIte,Nat.reduceEqDiff,reduceCtorEq,Nat.reduceAdd,Nat.reduceMul,Nat.reduceLeDiff,za0,za2,Int.reduceEq,Int.reduceLT,Int.reduceLE,Nat.reduceLT,tiA,tiXA, true_and]
      refine zb2 (by kernel_rfl) (by kernel_rfl) ?_
      try simp (disch := first | omega | (simp only [L3] <;> omega)) only [Sall,evalOp,init,binA_s,binE,binI,unE,convE,okNil,builtE,gv,TD.isAgg,resV,↓reduceIte,Nat.reduceEqDiff,reduceCtorEq,Nat.reduceAdd,Nat.reduceMul,Nat.reduceLeDiff,za0,za2,Int.reduceEq,Int.reduceLT,Int.reduceLE,Nat.reduceLT,tiA,tiXA, h5, h2', h3, g0, g1, ec, ed, c1, d1, c5, d5, lg, lg2, hr14, arrE, ag, beq_self_eq_true, w64]
      exact ⟨⟨by omega, by omega⟩, ⟨by omega, by omega⟩, ⟨by kernel_rfl, rfl⟩, k - (i + 1), by omega, i + 1, rfl, by omega, by omega⟩
    · try simp (disch := first | omega | (simp only [L3] <;> omega)) only [Sall,evalOp,init,binA_s,binE,binI,unE,convE,okNil,builtE,gv,TD.isAgg,resV,↓reduceIte,Nat.reduceEqDiff,reduceCtorEq,Nat.reduceAdd,Nat.reduceMul,Nat.reduceLeDiff,za0,za2,Int.reduceEq,Int.reduceLT,Int.reduceLE,Nat.reduceLT,tiA,tiXA, true_and]
      exact up
end Go.Proofs.YtemgclojolmhbaaGreat.A
end

section
set_option maxRecDepth 100000
set_option maxHeartbeats 4000000
namespace Go.Proofs.YtemgclojolmhbaaGreat.A
open Go Go.Abs Go.RowKit
theorem law_Breaks_c (cv : Value) (nb : Nat) (H : AH) (hc : CodeOk H cv nb) :
    ACalls Tryz.prog 3 [cv] H (fun v _ => v = .bool true ∧ True) := by
  refine ACalls.wf (by kernel_rfl) fun hs => za3 [.tmp 2] Tryz.func3 (by kernel_rfl) rfl rfl (Nat.le_of_ble_eq_true rfl) (by kernel_rfl) ?_
  have hone := hc.one
  try simp (disch := first | omega | (simp only [L3] <;> omega)) only [Sall,evalOp,init,binA_s,binE,binI,unE,convE,okNil,builtE,gv,TD.isAgg,resV,↓reduceIte,Nat.reduceEqDiff,reduceCtorEq,Nat.reduceAdd,Nat.reduceMul,Nat.reduceLeDiff,za0,za2,Int.reduceEq,Int.reduceLT,Int.reduceLE,Nat.reduceLT,tiA,tiXA, true_and]
  refine (big_c cv nb H hc).to ?_
  refine Holds.mp ?_
  by_cases hbig : 4096 < (nb : Int)
  · have e : decide (4096 < (nb : Int)) = true := decide_eq_true hbig
    try simp (disch := first | omega | (simp only [L3] <;> omega)) only [Sall,evalOp,init,binA_s,binE,binI,unE,convE,okNil,builtE,gv,TD.isAgg,resV,↓reduceIte,Nat.reduceEqDiff,reduceCtorEq,Nat.reduceAdd,Nat.reduceMul,Nat.reduceLeDiff,za0,za2,Int.reduceEq,Int.reduceLT,Int.reduceLE,Nat.reduceLT,tiA,tiXA, e]
  have e : decide (4096 < (nb : Int)) = false := decide_eq_false hbig
  have hnb : nb ≤ 4611686018427387904 := by omega
  try simp (disch := first | omega | (simp only [L3] <;> omega)) only [Sall,evalOp,init,binA_s,binE,binI,unE,convE,okNil,builtE,gv,TD.isAgg,resV,↓reduceIte,Nat.reduceEqDiff,reduceCtorEq,Nat.reduceAdd,Nat.reduceMul,Nat.reduceLeDiff,za0,za2,Int.reduceEq,Int.reduceLT,Int.reduceLE,Nat.reduceLT,tiA,tiXA, e, hone]
  refine ACalls.ex (g := fun p : Int × Value => .agg #[.int .i64 p.1, p.2]) (drawFewestBreaks_c cv nb H hnb hc) ?_
  rintro ⟨q, u⟩ H1 ⟨k, l, hq, hk, hb, hRR, o1⟩
  dsimp only at hq hRR
  have hu := (hRR H1 fun i r _ h => h).one
  refine Holds.mp ?_
  try simp (disch := first | omega | (simp only [L3] <;> omega)) only [Sall,evalOp,init,binA_s,binE,binI,unE,convE,okNil,builtE,gv,TD.isAgg,resV,↓reduceIte,Nat.reduceEqDiff,reduceCtorEq,Nat.reduceAdd,Nat.reduceMul,Nat.reduceLeDiff,za0,za2,Int.reduceEq,Int.reduceLT,Int.reduceLE,Nat.reduceLT,tiA,tiXA, hu]
  have o2 := ((o1.push ⟨26, true, [.int .i64 0, .slice none 0 0]⟩).putRow 0 rfl (cs' := [.int .i64 q, u]))
  obtain ⟨ei, eei⟩ : ∃ ei, ei = H1.next := ⟨_, rfl⟩
  rw [← eei] at o2 ⊢
  have keep : ∀ i r, H1.row i = some r → ((H1.push ⟨26, true, [.int .i64 0, .slice none 0 0]⟩).setCells ei [.int .i64 q, u]).row i = some r := fun i r hr => by
    have := o1.sc _ _ hr
    rw [AH.setCells_row, if_neg (by omega), AH.push_row, if_neg (by omega)]; exact hr
  generalize (H1.push ⟨26, true, [.int .i64 0, .slice none 0 0]⟩).setCells ei [.int .i64 q, u] = H2 at o2 keep ⊢
  have g3 : H2.row ei = some ⟨26, true, [.int .i64 q, u]⟩ := (o2.rowAt 0 rfl).1
  have r1 := hRR H2 fun i r _ h => keep i r h
  have sc2 := o2.sc
  have oz2 : Ow H H2 [] := Ow.left (L := []) o2
  clear hRR keep o2 o1
  refine (FewestBreaks_c q u k l H2 r1 (by omega)).to ?_
  refine Holds.mp ?_
  try simp (disch := first | omega | (simp only [L3] <;> omega)) only [Sall,evalOp,init,binA_s,binE,binI,unE,convE,okNil,builtE,gv,TD.isAgg,resV,↓reduceIte,Nat.reduceEqDiff,reduceCtorEq,Nat.reduceAdd,Nat.reduceMul,Nat.reduceLeDiff,za0,za2,Int.reduceEq,Int.reduceLT,Int.reduceLE,Nat.reduceLT,tiA,tiXA, g3, hu]
  refine (specFewestBreaks_c q u k l H2 r1 (by omega)).to ?_
  refine Holds.mp ?_
  try simp (disch := first | omega | (simp only [L3] <;> omega)) only [Sall,evalOp,init,binA_s,binE,binI,unE,convE,okNil,builtE,gv,TD.isAgg,resV,↓reduceIte,Nat.reduceEqDiff,reduceCtorEq,Nat.reduceAdd,Nat.reduceMul,Nat.reduceLeDiff,za0,za2,Int.reduceEq,Int.reduceLT,Int.reduceLE,Nat.reduceLT,tiA,tiXA, bne_self_eq_false]
  refine zcW (fun t H' => t 0 = cv ∧ Ow H H' []) (fun _ => ?_) (fun hz => ?_) ?_
  · try simp (disch := first | omega | (simp only [L3] <;> omega)) only [Sall,evalOp,init,binA_s,binE,binI,unE,convE,okNil,builtE,gv,TD.isAgg,resV,↓reduceIte,Nat.reduceEqDiff,reduceCtorEq,Nat.reduceAdd,Nat.reduceMul,Nat.reduceLeDiff,za0,za2,Int.reduceEq,Int.reduceLT,Int.reduceLE,Nat.reduceLT,tiA,tiXA, true_and]
    exact oz2
  · have hz0 : fewC q k l = 0 := beq_iff_eq.1 hz
    obtain ⟨b1, b2, b3, b4, b5⟩ := few_law hz0
    obtain ⟨⟨q2, q14⟩, k40, _⟩ := zaT b1
    try simp (disch := first | omega | (simp only [L3] <;> omega)) only [Sall,evalOp,init,binA_s,binE,binI,unE,convE,okNil,builtE,gv,TD.isAgg,resV,↓reduceIte,Nat.reduceEqDiff,reduceCtorEq,Nat.reduceAdd,Nat.reduceMul,Nat.reduceLeDiff,za0,za2,Int.reduceEq,Int.reduceLT,Int.reduceLE,Nat.reduceLT,tiA,tiXA, g3, hu]
    refine (FirstVenues_c q u k l H2 r1 (by omega) b1).ex ?_
    intro w H3 o3
    have hw := (o3.rd2 0 rfl).one
    have g3' := o3.old sc2 _ _ g3
    refine Holds.mp ?_
    try simp (disch := first | omega | (simp only [L3] <;> omega)) only [Sall,evalOp,init,binA_s,binE,binI,unE,convE,okNil,builtE,gv,TD.isAgg,resV,↓reduceIte,Nat.reduceEqDiff,reduceCtorEq,Nat.reduceAdd,Nat.reduceMul,Nat.reduceLeDiff,za0,za2,Int.reduceEq,Int.reduceLT,Int.reduceLE,Nat.reduceLT,tiA,tiXA, hw, g3', hu]
    refine (zeJ q u k l w (fstV q.toNat k l) H3 (r1.same (o3.old sc2)) (by omega) (o3.rd2 0 rfl) (by omega) (fun y hy => by rw [b3 y hy]; omega)).ex ?_
    intro x H4 o4
    have hx := o4.one 0 rfl
    have eR : brkR q k l (fstV q.toNat k l) = bkL q.toNat (fstV q.toNat k l) := by unfold brkR; rw [if_pos b4]
    rw [eR, zeO] at o4
    have g4 := (o3.call o4).old sc2 _ _ g3
    have lx := (o4.rd 0 rfl).len
    have f1 : ((q.toNat : Int) != q) = false := by rw [show (q.toNat : Int) = q by omega]; exact bne_self_eq_false _
    have f2 : ((0 : Int) != 0) = false := rfl
    rw [b4]
    refine Holds.mp ?_
    try simp (disch := first | omega | (simp only [L3] <;> omega)) only [Sall,evalOp,init,binA_s,binE,binI,unE,convE,okNil,builtE,gv,TD.isAgg,resV,↓reduceIte,Nat.reduceEqDiff,reduceCtorEq,Nat.reduceAdd,Nat.reduceMul,Nat.reduceLeDiff,za0,za2,Int.reduceEq,Int.reduceLT,Int.reduceLE,Nat.reduceLT,tiA,tiXA, hx, f2, builtE, lx, g4, f1]
    refine (sum_c x q.toNat (bkL q.toNat (fstV q.toNat k l)) H4 (by omega) (o4.rd 0 rfl) (bkL_bnd _ _ (by omega))).to ?_
    have f3 : decide ((bkL q.toNat (fstV q.toNat k l)).sum < fewR q k l) = false := decide_eq_false (by omega)
    refine Holds.mp ?_
    try simp (disch := first | omega | (simp only [L3] <;> omega)) only [Sall,evalOp,init,binA_s,binE,binI,unE,convE,okNil,builtE,gv,TD.isAgg,resV,↓reduceIte,Nat.reduceEqDiff,reduceCtorEq,Nat.reduceAdd,Nat.reduceMul,Nat.reduceLeDiff,za0,za2,Int.reduceEq,Int.reduceLT,Int.reduceLE,Nat.reduceLT,tiA,tiXA, f3]
    exact oz2.call (Ow.left (L := []) (o3.call o4))
  · rintro t H5 ⟨h0, o5⟩
    try simp (disch := first | omega | (simp only [L3] <;> omega)) only [Sall,evalOp,init,binA_s,binE,binI,unE,convE,okNil,builtE,gv,TD.isAgg,resV,↓reduceIte,Nat.reduceEqDiff,reduceCtorEq,Nat.reduceAdd,Nat.reduceMul,Nat.reduceLeDiff,za0,za2,Int.reduceEq,Int.reduceLT,Int.reduceLE,Nat.reduceLT,tiA,tiXA, h0, hone]
    refine (drawCircleVenues_c cv nb H5 hnb (codeUp hc (o5.old hs))).ex ?_
    rintro n H6 ⟨hn, o6⟩
    have oz6 := o5.call o6
    refine Holds.mp ?_
    try simp (disch := first | omega | (simp only [L3] <;> omega)) only [Sall,evalOp,init,binA_s,binE,binI,unE,convE,okNil,builtE,gv,TD.isAgg,resV,↓reduceIte,Nat.reduceEqDiff,reduceCtorEq,Nat.reduceAdd,Nat.reduceMul,Nat.reduceLeDiff,za0,za2,Int.reduceEq,Int.reduceLT,Int.reduceLE,Nat.reduceLT,tiA,tiXA, true_and]
    refine (CircleVenues_c n H6).ex ?_
    intro v13 H7 o7
    have hv13 := (o7.rd2 0 rfl).one
    refine Holds.mp ?_
    try simp (disch := first | omega | (simp only [L3] <;> omega)) only [Sall,evalOp,init,binA_s,binE,binI,unE,convE,okNil,builtE,gv,TD.isAgg,resV,↓reduceIte,Nat.reduceEqDiff,reduceCtorEq,Nat.reduceAdd,Nat.reduceMul,Nat.reduceLeDiff,za0,za2,Int.reduceEq,Int.reduceLT,Int.reduceLE,Nat.reduceLT,tiA,tiXA, hv13]
    refine (specCircleVenues_c n H7).ex ?_
    intro v15 H8 o8
    have hv15 := (o8.rd2 0 rfl).one
    have o78 := o7.call o8
    refine Holds.mp ?_
    try simp (disch := first | omega | (simp only [L3] <;> omega)) only [Sall,evalOp,init,binA_s,binE,binI,unE,convE,okNil,builtE,gv,TD.isAgg,resV,↓reduceIte,Nat.reduceEqDiff,reduceCtorEq,Nat.reduceAdd,Nat.reduceMul,Nat.reduceLeDiff,za0,za2,Int.reduceEq,Int.reduceLT,Int.reduceLE,Nat.reduceLT,tiA,tiXA, hv13, hv15, bne_self_eq_false]
    have hcl : (cvR n).length ≤ 14 ∧ ∀ j, j < (cvR n).length → ((cvR n).getD j []).length ≤ 14 := by
      by_cases hz : cvC n = 0
      · obtain ⟨_, c2, _, _, c5, c6⟩ := cv_law hz
        rw [c2]
        exact ⟨c5, fun j hj => c6 _ (zb1 hj)⟩
      · have : cvR n = [] := by
          unfold cvC at hz
          unfold cvR
          split at hz
          · exact absurd rfl hz
          · rename_i h; rw [if_neg h]
        rw [this]; exact ⟨by simp, fun j hj => by simp at hj⟩
    refine (rows5_c v13 v15 (cvR n) H8 (by omega) (fun j hj => by have := hcl.2 j hj; omega) (o78.rd2 0 rfl) (o78.rd2 1 rfl)).to ?_
    refine Holds.mp ?_
    try simp (disch := first | omega | (simp only [L3] <;> omega)) only [Sall,evalOp,init,binA_s,binE,binI,unE,convE,okNil,builtE,gv,TD.isAgg,resV,↓reduceIte,Nat.reduceEqDiff,reduceCtorEq,Nat.reduceAdd,Nat.reduceMul,Nat.reduceLeDiff,za0,za2,Int.reduceEq,Int.reduceLT,Int.reduceLE,Nat.reduceLT,tiA,tiXA, Bool.not_true]
    refine zcW (fun t H' => t 0 = cv ∧ Ow H H' []) (fun _ => ?_) (fun hz => ?_) ?_
    · try simp (disch := first | omega | (simp only [L3] <;> omega)) only [Sall,evalOp,init,binA_s,binE,binI,unE,convE,okNil,builtE,gv,TD.isAgg,resV,↓reduceIte,Nat.reduceEqDiff,reduceCtorEq,Nat.reduceAdd,Nat.reduceMul,Nat.reduceLeDiff,za0,za2,Int.reduceEq,Int.reduceLT,Int.reduceLE,Nat.reduceLT,tiA,tiXA, h0]
      exact oz6.call (Ow.left (L := []) o78)
    · have hz0 : cvC n = 0 := beq_iff_eq.1 hz
      obtain ⟨c1, c2, c3, c4, c5, c6⟩ := cv_law hz0
      try simp (disch := first | omega | (simp only [L3] <;> omega)) only [Sall,evalOp,init,binA_s,binE,binI,unE,convE,okNil,builtE,gv,TD.isAgg,resV,↓reduceIte,Nat.reduceEqDiff,reduceCtorEq,Nat.reduceAdd,Nat.reduceMul,Nat.reduceLeDiff,za0,za2,Int.reduceEq,Int.reduceLT,Int.reduceLE,Nat.reduceLT,tiA,tiXA, true_and]
      refine (CircleOf_c n H8 c1).ex ?_
      intro v17 H9 o9
      have hv17 := o9.one 0 rfl
      have oa := ((o78.call o9).push ⟨26, true, [.int .i64 0, .slice none 0 0]⟩).putRow 3 rfl (cs' := [.int .i64 n, v17])
      refine Holds.mp ?_
      try simp (disch := first | omega | (simp only [L3] <;> omega)) only [Sall,evalOp,init,binA_s,binE,binI,unE,convE,okNil,builtE,gv,TD.isAgg,resV,↓reduceIte,Nat.reduceEqDiff,reduceCtorEq,Nat.reduceAdd,Nat.reduceMul,Nat.reduceLeDiff,za0,za2,Int.reduceEq,Int.reduceLT,Int.reduceLE,Nat.reduceLT,tiA,tiXA, hv17]
      generalize hp17 : H9.next = p17 at oa ⊢
      generalize (H9.push ⟨26, true, [.int .i64 0, .slice none 0 0]⟩).setCells p17 [.int .i64 n, v17] = Ha at oa ⊢
      have g17 := (oa.rowAt 3 rfl).1
      have r13 := oa.rd2 0 rfl
      have ho : oddUp n.toNat ≤ 13 := by unfold oddUp; omega
      rw [c2] at r13
      try simp (disch := first | omega | (simp only [L3] <;> omega)) only [Sall,evalOp,init,binA_s,binE,binI,unE,convE,okNil,builtE,gv,TD.isAgg,resV,↓reduceIte,Nat.reduceEqDiff,reduceCtorEq,Nat.reduceAdd,Nat.reduceMul,Nat.reduceLeDiff,za0,za2,Int.reduceEq,Int.reduceLT,Int.reduceLE,Nat.reduceLT,tiA,tiXA, g17, hv13, hv17]
      refine (zeJ n v17 (oddUp n.toNat) (zaW n.toNat (oddUp n.toNat)) v13 (cvL n.toNat) Ha (oa.rd 2 rfl) (by omega) r13 (by omega) (fun y hy => by have := c6 y hy; omega)).ex ?_
      intro v19 Hb ob
      have hv19 := ob.one 0 rfl
      have eR : brkR n (oddUp n.toNat) (zaW n.toNat (oddUp n.toNat)) (cvL n.toNat) = bkL n.toNat (cvL n.toNat) := by unfold brkR; rw [if_pos c3]
      rw [eR, zeO] at ob
      have f2 : ((0 : Int) != 0) = false := rfl
      rw [c3]
      refine Holds.mp ?_
      try simp (disch := first | omega | (simp only [L3] <;> omega)) only [Sall,evalOp,init,binA_s,binE,binI,unE,convE,okNil,builtE,gv,TD.isAgg,resV,↓reduceIte,Nat.reduceEqDiff,reduceCtorEq,Nat.reduceAdd,Nat.reduceMul,Nat.reduceLeDiff,za0,za2,Int.reduceEq,Int.reduceLT,Int.reduceLE,Nat.reduceLT,tiA,tiXA, hv19, f2]
      refine (sum_c v19 n.toNat (bkL n.toNat (cvL n.toNat)) Hb (by omega) (ob.rd 0 rfl) (bkL_bnd _ _ (by omega))).to ?_
      have wn : IntKind.i64.wrap (n - 2) = n - 2 := w64 ⟨by omega, by omega⟩
      rw [c4]
      refine Holds.mp ?_
      try simp (disch := first | omega | (simp only [L3] <;> omega)) only [Sall,evalOp,init,binA_s,binE,binI,unE,convE,okNil,builtE,gv,TD.isAgg,resV,↓reduceIte,Nat.reduceEqDiff,reduceCtorEq,Nat.reduceAdd,Nat.reduceMul,Nat.reduceLeDiff,za0,za2,Int.reduceEq,Int.reduceLT,Int.reduceLE,Nat.reduceLT,tiA,tiXA, wn, bne_self_eq_false, h0]
      exact oz6.call (Ow.left (L := []) (oa.call ob))
    · rintro t H9 ⟨h0, o9⟩
      try simp (disch := first | omega | (simp only [L3] <;> omega)) only [Sall,evalOp,init,binA_s,binE,binI,unE,convE,okNil,builtE,gv,TD.isAgg,resV,↓reduceIte,Nat.reduceEqDiff,reduceCtorEq,Nat.reduceAdd,Nat.reduceMul,Nat.reduceLeDiff,za0,za2,Int.reduceEq,Int.reduceLT,Int.reduceLE,Nat.reduceLT,tiA,tiXA, h0, hone]
      refine (drawScheduleFor_c cv nb H9 hnb (codeUp hc (o9.old hs))).mono ?_
      rintro v21 Ha ⟨P, ⟨hP1, hP2⟩, hRR, oa⟩
      have rP := hRR Ha fun i r _ h => h
      have hv21 := rP.one
      have oza := o9.call oa
      refine Holds.mp ?_
      try simp (disch := first | omega | (simp only [L3] <;> omega)) only [Sall,evalOp,init,binA_s,binE,binI,unE,convE,okNil,builtE,gv,TD.isAgg,resV,↓reduceIte,Nat.reduceEqDiff,reduceCtorEq,Nat.reduceAdd,Nat.reduceMul,Nat.reduceLeDiff,za0,za2,Int.reduceEq,Int.reduceLT,Int.reduceLE,Nat.reduceLT,tiA,tiXA, hv21]
      refine (ScheduleFor_c v21 P Ha rP (by omega) (fun y hy => by have := hP2 y hy; omega)).ex ?_
      intro v22 Hb ob
      have hv22 := ob.one 0 rfl
      have oc := (ob.push ⟨26, true, [.int .i64 0, .slice none 0 0]⟩).putRow 1 rfl (cs' := [.int .i64 (sfQ P), v22])
      refine Holds.mp ?_
      try simp (disch := first | omega | (simp only [L3] <;> omega)) only [Sall,evalOp,init,binA_s,binE,binI,unE,convE,okNil,builtE,gv,TD.isAgg,resV,↓reduceIte,Nat.reduceEqDiff,reduceCtorEq,Nat.reduceAdd,Nat.reduceMul,Nat.reduceLeDiff,za0,za2,Int.reduceEq,Int.reduceLT,Int.reduceLE,Nat.reduceLT,tiA,tiXA, hv22, hv21]
      generalize hp22 : Hb.next = p22 at oc ⊢
      generalize (Hb.push ⟨26, true, [.int .i64 0, .slice none 0 0]⟩).setCells p22 [.int .i64 (sfQ P), v22] = Hc at oc ⊢
      have rPc := rP.same (oc.old oa.sc)
      refine (specScheduleFor_c v21 P Hc rPc (by omega) (fun y hy => by have := hP2 y hy; omega)).ex ?_
      rintro v24 Hd ⟨upd4, scd, hrd⟩
      have hv24 := hrd.one
      have od := oc.call (Ow.of_up upd4 scd)
      refine Holds.mp ?_
      have g22 := (od.rowAt 1 rfl).1
      have n22 : ¬ p22 = Hd.next := by have := (od.rowAt 1 rfl).2.2; omega
      have oe := (od.push ⟨26, true, [.int .i64 0, .slice none 0 0]⟩).putRow 2 rfl (cs' := [.int .i64 (sfQ P), v24])
      have keep : ∀ i r, Hd.row i = some r → ((Hd.push ⟨26, true, [.int .i64 0, .slice none 0 0]⟩).setCells Hd.next [.int .i64 (sfQ P), v24]).row i = some r := fun i r hr => by
        have := scd _ _ hr
        rw [AH.setCells_row, if_neg (by omega), AH.push_row, if_neg (by omega)]; exact hr
      try simp (disch := first | omega | (simp only [L3] <;> omega)) only [Sall,evalOp,init,binA_s,binE,binI,unE,convE,okNil,builtE,gv,TD.isAgg,resV,↓reduceIte,Nat.reduceEqDiff,reduceCtorEq,Nat.reduceAdd,Nat.reduceMul,Nat.reduceLeDiff,za0,za2,Int.reduceEq,Int.reduceLT,Int.reduceLE,Nat.reduceLT,tiA,tiXA, hv24, hv22, bne_self_eq_false, g22, n22]
      have oe : Ow Ha ((Hd.push ⟨26, true, [.int .i64 0, .slice none 0 0]⟩).setCells Hd.next [.int .i64 (sfQ P), v24]) [.sl 14 67 v22 (sfR P).length (ints (sfR P).flatten), .row p22 ⟨26, true, [.int .i64 (sfQ P), v22]⟩, .row Hd.next ⟨26, true, [.int .i64 (sfQ P), v24]⟩] := oe
      generalize hp24 : Hd.next = p24 at oe keep ⊢
      generalize (Hd.push ⟨26, true, [.int .i64 0, .slice none 0 0]⟩).setCells p24 [.int .i64 (sfQ P), v24] = He at oe keep ⊢
      have hlR : (sfR P).length ≤ 6 := by
        by_cases hz : sfC P = 0
        · obtain ⟨n, _, _, _, h5, _⟩ := sf_law hz; omega
        · have : sfR P = [] := by unfold sfR; rw [if_neg hz]
          rw [this]; simp
      refine (schedules5_c (sfQ P) v22 v24 (sfR P).length (sfR P).flatten He (by omega) (oe.rd 0 rfl) (hrd.same keep)).to ?_
      refine Holds.mp ?_
      try simp (disch := first | omega | (simp only [L3] <;> omega)) only [Sall,evalOp,init,binA_s,binE,binI,unE,convE,okNil,builtE,gv,TD.isAgg,resV,↓reduceIte,Nat.reduceEqDiff,reduceCtorEq,Nat.reduceAdd,Nat.reduceMul,Nat.reduceLeDiff,za0,za2,Int.reduceEq,Int.reduceLT,Int.reduceLE,Nat.reduceLT,tiA,tiXA, Bool.not_true]
      refine zcW (fun t H' => t 0 = cv ∧ Ow H H' []) (fun _ => ?_) (fun hz => ?_) ?_
      · try simp (disch := first | omega | (simp only [L3] <;> omega)) only [Sall,evalOp,init,binA_s,binE,binI,unE,convE,okNil,builtE,gv,TD.isAgg,resV,↓reduceIte,Nat.reduceEqDiff,reduceCtorEq,Nat.reduceAdd,Nat.reduceMul,Nat.reduceLeDiff,za0,za2,Int.reduceEq,Int.reduceLT,Int.reduceLE,Nat.reduceLT,tiA,tiXA, h0]
        exact oza.call (Ow.left (L := []) oe)
      · have hz0 : sfC P = 0 := beq_iff_eq.1 hz
        obtain ⟨n, hn, hPl, hq, hRl, hR14, hPB, hrob, hc1, hc2, hvn, hpat⟩ := sf_law hz0
        obtain ⟨_, hPr⟩ := zgK hPB
        have rPe := rP.same (oe.old oa.sc)
        have lP := rPe.len
        rw [hPl] at lP
        have g22e := (oe.rowAt 1 rfl).1
        have l22 := (oe.rd 0 rfl).len
        rw [hRl] at l22
        rw [hq] at g22e
        have r22 := oe.rd 0 rfl
        rw [hRl] at r22
        have h0e := h0
        have n22e : ¬ p22 = He.next := by have := (oe.rowAt 1 rfl).2.2; omega
        have of1 := (oe.pick2 0 1 rfl rfl (by omega)).pushSl2 (Value.int .i64) 33 2
        rw [hq, hRl] at of1
        have zz : zeros 1 [.slice none 0 0] = [.slice none 0 0] := rfl
        have z1 : zeros 1 [.int .i64 0] = [.int .i64 0] := rfl
        have row_i : ∀ i, i < n - 1 → (rowsP n P).getD i [] = (List.range n).map fun b => (P.getD b []).getD i 0 := fun i hi => by simp [rowsP, List.getD_eq_getElem?_getD, hi]
        have hrpl : (rowsP n P).length = n - 1 := by simp [rowsP]
        have hsc_a := oa.sc
        try simp (disch := first | omega | (simp only [L3] <;> omega)) only [Sall,evalOp,init,binA_s,binE,binI,unE,convE,okNil,builtE,gv,TD.isAgg,resV,↓reduceIte,Nat.reduceEqDiff,reduceCtorEq,Nat.reduceAdd,Nat.reduceMul,Nat.reduceLeDiff,za0,za2,Int.reduceEq,Int.reduceLT,Int.reduceLE,Nat.reduceLT,tiA,tiXA, g22e, n22e, hv22, builtE, l22, zaV]
        refine za5 (fun z t Hx => ∃ (i : Nat) (w : Value), z = n - 1 - i ∧ i ≤ n - 1 ∧ t 178 = .int .i64 i ∧ t 177 = .int .i64 (n - 1 : Nat) ∧ t 26 = w ∧ t 21 = v21 ∧ t 22 = .pointer (some ⟨p22, 0, none⟩) ∧ t 0 = cv ∧ Ow Ha Hx [.sl 14 67 v22 (n - 1) (ints (sfR P).flatten), .row p22 ⟨26, true, [.int .i64 n, v22]⟩, .sl2 (Value.int .i64) 33 2 w ((rowsP n P).take i)]) (n - 1) ?_ ?_
        · refine ⟨0, .slice (some ⟨He.next, 0, some 1⟩) 0 0, by omega, by omega, ?_⟩
          try simp (disch := first | omega | (simp only [L3] <;> omega)) only [Sall,evalOp,init,binA_s,binE,binI,unE,convE,okNil,builtE,gv,TD.isAgg,resV,↓reduceIte,Nat.reduceEqDiff,reduceCtorEq,Nat.reduceAdd,Nat.reduceMul,Nat.reduceLeDiff,za0,za2,Int.reduceEq,Int.reduceLT,Int.reduceLE,Nat.reduceLT,tiA,tiXA, Int.natCast_zero, h0]
          rw [List.take_zero]
          exact of1
        · rintro z t Hx ⟨i, w, hzz, hi, h178, h177, h26, h21, h22, h0, of2⟩
          try simp (disch := first | omega | (simp only [L3] <;> omega)) only [Sall,evalOp,init,binA_s,binE,binI,unE,convE,okNil,builtE,gv,TD.isAgg,resV,↓reduceIte,Nat.reduceEqDiff,reduceCtorEq,Nat.reduceAdd,Nat.reduceMul,Nat.reduceLeDiff,za0,za2,Int.reduceEq,Int.reduceLT,Int.reduceLE,Nat.reduceLT,tiA,tiXA, h178, h177]
          refine za4 (fun hh => ?_) (fun hh => ?_)
          · have hin : i < n - 1 := by omega
            have hdec : n - 1 - (i + 1) < z := by omega
            have wi : IntKind.i64.wrap ((i : Int) + 1) = ((i + 1 : Nat) : Int) := w64 ⟨by omega, by omega⟩
            have of3 := of2.pushSl (k := 1) (n := 0) (ty := 2) (vs := []) rfl
            try simp (disch := first | omega | (simp only [L3] <;> omega)) only [Sall,evalOp,init,binA_s,binE,binI,unE,convE,okNil,builtE,gv,TD.isAgg,resV,↓reduceIte,Nat.reduceEqDiff,reduceCtorEq,Nat.reduceAdd,Nat.reduceMul,Nat.reduceLeDiff,za0,za2,Int.reduceEq,Int.reduceLT,Int.reduceLE,Nat.reduceLT,tiA,tiXA, h178, h21, builtE, lP, zaV]
            refine za5 (fun z' t Hy => ∃ (a : Nat) (x : Value), z' = n - a ∧ a ≤ n ∧ t 184 = .int .i64 a ∧ t 183 = .int .i64 n ∧ t 28 = x ∧ t 27 = .int .i64 i ∧ t 178 = .int .i64 i ∧ t 177 = .int .i64 (n - 1 : Nat) ∧ t 26 = w ∧ t 21 = v21 ∧ t 22 = .pointer (some ⟨p22, 0, none⟩) ∧ t 0 = cv ∧ Ow Ha Hy [.sl 14 67 v22 (n - 1) (ints (sfR P).flatten), .row p22 ⟨26, true, [.int .i64 n, v22]⟩, .sl2 (Value.int .i64) 33 2 w ((rowsP n P).take i), .sl 1 2 x a (ints ((List.range a).map fun b => (P.getD b []).getD i 0))]) n ?_ ?_
            · refine ⟨0, .slice (some ⟨Hx.next, 0, some 1⟩) 0 0, by omega, by omega, ?_⟩
              try simp (disch := first | omega | (simp only [L3] <;> omega)) only [Sall,evalOp,init,binA_s,binE,binI,unE,convE,okNil,builtE,gv,TD.isAgg,resV,↓reduceIte,Nat.reduceEqDiff,reduceCtorEq,Nat.reduceAdd,Nat.reduceMul,Nat.reduceLeDiff,za0,za2,Int.reduceEq,Int.reduceLT,Int.reduceLE,Nat.reduceLT,tiA,tiXA, Int.natCast_zero, h178, h177, h26, h21, h22, h0]
              exact of3
            · rintro z' t Hy ⟨a, x, hz', ha, h184, h183, h28, h27, h178, h177, h26, h21, h22, h0, of4⟩
              try simp (disch := first | omega | (simp only [L3] <;> omega)) only [Sall,evalOp,init,binA_s,binE,binI,unE,convE,okNil,builtE,gv,TD.isAgg,resV,↓reduceIte,Nat.reduceEqDiff,reduceCtorEq,Nat.reduceAdd,Nat.reduceMul,Nat.reduceLeDiff,za0,za2,Int.reduceEq,Int.reduceLT,Int.reduceLE,Nat.reduceLT,tiA,tiXA, h184, h183]
              refine za4 (fun hh2 => ?_) (fun hh2 => ?_)
              · have han : a < n := by omega
                have hdec2 : n - (a + 1) < z' := by omega
                have wa : IntKind.i64.wrap ((a : Int) + 1) = ((a + 1 : Nat) : Int) := w64 ⟨by omega, by omega⟩
                have ga : (0 : Int) ≤ (a : Int) := by omega
                have ga2 : (a : Int) < (n : Int) := by omega
                have gi : (0 : Int) ≤ (i : Int) := by omega
                have gi2 : (i : Int) < ((n - 1 : Nat) : Int) := by omega
                obtain ⟨xi, xo, xu, xc, xr, y, my, ex, x1, x2, x3, x4⟩ := (rP.same (of4.old hsc_a)).get (j := a) (by omega)
                have hmy := x3.lenK1
                rw [(hPr a han).1] at hmy
                have hmy := hmy.symm
                subst hmy
                obtain ⟨zi, zo, zu, zc, zr, ez, z1', z2, z3, _⟩ := x3.get (by omega)
                have z4 := z3 i (by omega)
                subst ez
                rw [hPl] at ex
                have hx1 := of4.one 3 rfl
                have hsuc : (List.range (a + 1)).map (fun b => (P.getD b []).getD i 0) = (List.range a).map (fun b => (P.getD b []).getD i 0) ++ [(P.getD a []).getD i 0] := by rw [List.range_succ, List.map_append]; rfl
                try simp (disch := first | omega | (simp only [L3] <;> omega)) only [Sall,evalOp,init,binA_s,binE,binI,unE,convE,okNil,builtE,gv,TD.isAgg,resV,↓reduceIte,Nat.reduceEqDiff,reduceCtorEq,Nat.reduceAdd,Nat.reduceMul,Nat.reduceLeDiff,za0,za2,Int.reduceEq,Int.reduceLT,Int.reduceLE,Nat.reduceLT,tiA,tiXA, h184, h28, h27, h21, ex, x1, x2, x4, z1', z4, ga, ga2, gi, gi2, z1, zaL]
                refine (of4.tmp ⟨2, true, [.int .i64 ((P.getD a []).getD i 0)]⟩).app 3 (c := 1) (ms := ints [(P.getD a []).getD i 0]) rfl rfl (by omega) rfl (by omega) (by decide) (by omega) ?_
                intro v' H6 n6 of5
                rw [zaK, ← hsuc] at of5
                try simp (disch := first | omega | (simp only [L3] <;> omega)) only [Sall,evalOp,init,binA_s,binE,binI,unE,convE,okNil,builtE,gv,TD.isAgg,resV,↓reduceIte,Nat.reduceEqDiff,reduceCtorEq,Nat.reduceAdd,Nat.reduceMul,Nat.reduceLeDiff,za0,za2,Int.reduceEq,Int.reduceLT,Int.reduceLE,Nat.reduceLT,tiA,tiXA, h184, h183, h27, h178, h177, h26, h21, h22, h0, wa, ← ex]
                exact ⟨n - (a + 1), hdec2, a + 1, v', rfl, by omega, rfl, rfl, of5⟩
              · have hae : a = n := by omega
                rw [hae, ← row_i i hin] at of4
                have hx1 := of4.one 3 rfl
                have htl : ((rowsP n P).take i).length = i := by rw [List.length_take, hrpl]; omega
                have hok := fun r => ok_one (r := r) hx1
                try simp (disch := first | omega | (simp only [L3] <;> omega)) only [Sall,evalOp,init,binA_s,binE,binI,unE,convE,okNil,builtE,gv,TD.isAgg,resV,↓reduceIte,Nat.reduceEqDiff,reduceCtorEq,Nat.reduceAdd,Nat.reduceMul,Nat.reduceLeDiff,za0,za2,Int.reduceEq,Int.reduceLT,Int.reduceLE,Nat.reduceLT,tiA,tiXA, h28, h26, hx1, zbB hx1, zb0 hx1, zb9 hx1, zz, zaL, hok]
                refine (of4.tmp ⟨33, true, [x]⟩).app2 (l := (rowsP n P).getD i []) 2 3 rfl rfl (by omega) rfl (by decide) (by omega) ?_
                intro v' H6 n6 of5
                try simp (disch := first | omega | (simp only [L3] <;> omega)) only [Sall,evalOp,init,binA_s,binE,binI,unE,convE,okNil,builtE,gv,TD.isAgg,resV,↓reduceIte,Nat.reduceEqDiff,reduceCtorEq,Nat.reduceAdd,Nat.reduceMul,Nat.reduceLeDiff,za0,za2,Int.reduceEq,Int.reduceLT,Int.reduceLE,Nat.reduceLT,tiA,tiXA, h178, h177, h21, h22, h0, wi]
                exact ⟨n - 1 - (i + 1), hdec, i + 1, v', rfl, by omega, rfl, rfl, by rw [zg4 (by rw [hrpl]; exact hin)]; exact of5.pick3 0 1 2 rfl rfl rfl (by omega) (by omega) (by omega)⟩
          · have hie : i = n - 1 := by omega
            rw [hie, show (rowsP n P).take (n - 1) = rowsP n P by rw [List.take_of_length_le (by omega)]] at of2
            have g22x := (of2.rowAt 1 rfl).1
            have r22x := of2.rd 0 rfl
            have rwx := of2.rd2 2 rfl
            have hwo := rwx.one
            have f2 : ((0 : Int) != 0) = false := rfl
            try simp (disch := first | omega | (simp only [L3] <;> omega)) only [Sall,evalOp,init,binA_s,binE,binI,unE,convE,okNil,builtE,gv,TD.isAgg,resV,↓reduceIte,Nat.reduceEqDiff,reduceCtorEq,Nat.reduceAdd,Nat.reduceMul,Nat.reduceLeDiff,za0,za2,Int.reduceEq,Int.reduceLT,Int.reduceLE,Nat.reduceLT,tiA,tiXA, h22, g22x, hv22]
            refine (IsRoundRobin_c n v22 (n - 1) (sfR P).flatten Hx r22x (by omega)).to ?_
            rw [Int.toNat_natCast, hrob, hc1]
            refine Holds.mp ?_
            try simp (disch := first | omega | (simp only [L3] <;> omega)) only [Sall,evalOp,init,binA_s,binE,binI,unE,convE,okNil,builtE,gv,TD.isAgg,resV,↓reduceIte,Nat.reduceEqDiff,reduceCtorEq,Nat.reduceAdd,Nat.reduceMul,Nat.reduceLeDiff,za0,za2,Int.reduceEq,Int.reduceLT,Int.reduceLE,Nat.reduceLT,tiA,tiXA, h22, g22x, hv22, h26, hwo]
            refine (AreVenues_c n v22 (n - 1) (sfR P).flatten w (rowsP n P) Hx r22x (by omega) rwx (by omega) (fun y hy => by
              obtain ⟨j, hj, rfl⟩ := List.mem_iff_getElem.1 hy
              simp [rowsP]; omega)).to ?_
            rw [Int.toNat_natCast, hc2, hvn]
            refine Holds.mp ?_
            try simp (disch := first | omega | (simp only [L3] <;> omega)) only [Sall,evalOp,init,binA_s,binE,binI,unE,convE,okNil,builtE,gv,TD.isAgg,resV,↓reduceIte,Nat.reduceEqDiff,reduceCtorEq,Nat.reduceAdd,Nat.reduceMul,Nat.reduceLeDiff,za0,za2,Int.reduceEq,Int.reduceLT,Int.reduceLE,Nat.reduceLT,tiA,tiXA, f2, Bool.not_true, h21, builtE, lP, decide_true, Bool.and_true]
            refine za5 (fun z t Hy => ∃ a : Nat, z = n - a ∧ a ≤ n ∧ t 230 = .int .i64 a ∧ t 229 = .int .i64 n ∧ t 26 = w ∧ t 21 = v21 ∧ t 22 = .pointer (some ⟨p22, 0, none⟩) ∧ t 0 = cv ∧ Ow Hx Hy []) n ?_ ?_
            · refine ⟨0, by omega, by omega, ?_⟩
              try simp (disch := first | omega | (simp only [L3] <;> omega)) only [Sall,evalOp,init,binA_s,binE,binI,unE,convE,okNil,builtE,gv,TD.isAgg,resV,↓reduceIte,Nat.reduceEqDiff,reduceCtorEq,Nat.reduceAdd,Nat.reduceMul,Nat.reduceLeDiff,za0,za2,Int.reduceEq,Int.reduceLT,Int.reduceLE,Nat.reduceLT,tiA,tiXA, Int.natCast_zero, h26, h21, h22, h0]
              exact Ow.refl of2.sc
            · rintro z2 t Hy ⟨a, hz2, ha, h230, h229, h26, h21, h22, h0, oy⟩
              try simp (disch := first | omega | (simp only [L3] <;> omega)) only [Sall,evalOp,init,binA_s,binE,binI,unE,convE,okNil,builtE,gv,TD.isAgg,resV,↓reduceIte,Nat.reduceEqDiff,reduceCtorEq,Nat.reduceAdd,Nat.reduceMul,Nat.reduceLeDiff,za0,za2,Int.reduceEq,Int.reduceLT,Int.reduceLE,Nat.reduceLT,tiA,tiXA, h230, h229]
              refine za4 (fun hh2 => ?_) (fun hh2 => ?_)
              · have han : a < n := by omega
                have hdec2 : n - (a + 1) < z2 := by omega
                have wa : IntKind.i64.wrap ((a : Int) + 1) = ((a + 1 : Nat) : Int) := w64 ⟨by omega, by omega⟩
                have ga : (0 : Int) ≤ (a : Int) := by omega
                have ga2 : (a : Int) < (n : Int) := by omega
                obtain ⟨hp1, hp2⟩ := hpat a han
                have g22y := oy.old of2.sc _ _ g22x
                try simp (disch := first | omega | (simp only [L3] <;> omega)) only [Sall,evalOp,init,binA_s,binE,binI,unE,convE,okNil,builtE,gv,TD.isAgg,resV,↓reduceIte,Nat.reduceEqDiff,reduceCtorEq,Nat.reduceAdd,Nat.reduceMul,Nat.reduceLeDiff,za0,za2,Int.reduceEq,Int.reduceLT,Int.reduceLE,Nat.reduceLT,tiA,tiXA, h230, h22, g22y, hv22, h26, hwo]
                refine (zeX n v22 (n - 1) (sfR P).flatten w (rowsP n P) a Hy (r22x.same (oy.old of2.sc)) (by omega) (rwx.same (oy.old of2.sc)) (by omega) (fun y hy => by
                  obtain ⟨j, hj, rfl⟩ := List.mem_iff_getElem.1 hy
                  simp [rowsP]; omega)).ex ?_
                intro x Hz oz
                rw [hp1] at oz
                have hxo := oz.one 0 rfl
                have ozz := oy.call oz
                obtain ⟨xi, xo, xu, xc, xr, y, my, ex, x1, x2, x3, x4⟩ := (rP.same (fun i r h => ozz.old of2.sc i r (of2.old hsc_a i r h))).get (j := a) (by omega)
                have hmy := x3.lenK1
                subst hmy
                rw [hPl] at ex
                have hyo := x3.one
                rw [hp2]
                refine Holds.mp ?_
                try simp (disch := first | omega | (simp only [L3] <;> omega)) only [Sall,evalOp,init,binA_s,binE,binI,unE,convE,okNil,builtE,gv,TD.isAgg,resV,↓reduceIte,Nat.reduceEqDiff,reduceCtorEq,Nat.reduceAdd,Nat.reduceMul,Nat.reduceLeDiff,za0,za2,Int.reduceEq,Int.reduceLT,Int.reduceLE,Nat.reduceLT,tiA,tiXA, hxo, f2, h21, ex, x1, x2, x4, ga, ga2, hyo]
                refine (zdF x y _ (P.getD a []) Hz (by rw [(hPr a han).1]; omega) (oz.rd 0 rfl) x3).to ?_
                refine Holds.mp ?_
                try simp (disch := first | omega | (simp only [L3] <;> omega)) only [Sall,evalOp,init,binA_s,binE,binI,unE,convE,okNil,builtE,gv,TD.isAgg,resV,↓reduceIte,Nat.reduceEqDiff,reduceCtorEq,Nat.reduceAdd,Nat.reduceMul,Nat.reduceLeDiff,za0,za2,Int.reduceEq,Int.reduceLT,Int.reduceLE,Nat.reduceLT,tiA,tiXA, Bool.not_true, h230, h229, h26, h21, h22, h0, wa, ← ex]
                exact ⟨n - (a + 1), hdec2, a + 1, rfl, by omega, rfl, Ow.left (L := []) ozz⟩
              · try simp (disch := first | omega | (simp only [L3] <;> omega)) only [Sall,evalOp,init,binA_s,binE,binI,unE,convE,okNil,builtE,gv,TD.isAgg,resV,↓reduceIte,Nat.reduceEqDiff,reduceCtorEq,Nat.reduceAdd,Nat.reduceMul,Nat.reduceLeDiff,za0,za2,Int.reduceEq,Int.reduceLT,Int.reduceLE,Nat.reduceLT,tiA,tiXA, h0]
                exact oza.call (Ow.left (L := []) (of2.call oy))
      · rintro t Hx ⟨h0, ox⟩
        clear rP hRR
        have mem14 : ∀ {ll : List (List Int)}, VbL ll → ll.length ≤ 4194304 ∧ ∀ y ∈ ll, y.length ≤ 4194304 := fun h => ⟨by have := h.len; omega, fun y hy => by have := (h.row y hy).1; omega⟩
        try simp (disch := first | omega | (simp only [L3] <;> omega)) only [Sall,evalOp,init,binA_s,binE,binI,unE,convE,okNil,builtE,gv,TD.isAgg,resV,↓reduceIte,Nat.reduceEqDiff,reduceCtorEq,Nat.reduceAdd,Nat.reduceMul,Nat.reduceLeDiff,za0,za2,Int.reduceEq,Int.reduceLT,Int.reduceLE,Nat.reduceLT,tiA,tiXA, h0, hone]
        refine ACalls.ex (g := fun p : (Int × Value) × Value => .tuple #[.agg #[.int .i64 p.1.1, p.1.2], p.2]) (drawBreaksOf_c cv nb Hx hnb (codeUp hc (ox.old hs))) ?_
        rintro ⟨⟨q, u⟩, w⟩ H1 ⟨k, l, ll, hq, hk, hb, hVb, hRR, o1⟩
        dsimp only at hq hRR
        have hR1 := hRR H1 fun i r _ h => h
        have hu := hR1.1.one
        have hw := hR1.2.one
        have oz1 := ox.call o1
        have o2 := (o1.push ⟨26, true, [.int .i64 0, .slice none 0 0]⟩).putRow 0 rfl (cs' := [.int .i64 q, u])
        refine Holds.mp ?_
        try simp (disch := first | omega | (simp only [L3] <;> omega)) only [Sall,evalOp,init,binA_s,binE,binI,unE,convE,okNil,builtE,gv,TD.isAgg,resV,↓reduceIte,Nat.reduceEqDiff,reduceCtorEq,Nat.reduceAdd,Nat.reduceMul,Nat.reduceLeDiff,za0,za2,Int.reduceEq,Int.reduceLT,Int.reduceLE,Nat.reduceLT,tiA,tiXA, hu, hw]
        obtain ⟨ei, eei⟩ : ∃ ei, ei = H1.next := ⟨_, rfl⟩
        rw [← eei] at o2 ⊢
        have keep : ∀ i r, H1.row i = some r → ((H1.push ⟨26, true, [.int .i64 0, .slice none 0 0]⟩).setCells ei [.int .i64 q, u]).row i = some r := fun i r hr => by
          have := o1.sc _ _ hr
          rw [AH.setCells_row, if_neg (by omega), AH.push_row, if_neg (by omega)]; exact hr
        generalize (H1.push ⟨26, true, [.int .i64 0, .slice none 0 0]⟩).setCells ei [.int .i64 q, u] = H2 at o2 keep ⊢
        have g3 : H2.row ei = some ⟨26, true, [.int .i64 q, u]⟩ := (o2.rowAt 0 rfl).1
        obtain ⟨r1, r2⟩ := hRR H2 fun i r _ h => keep i r h
        have sc2 := o2.sc
        have oz2 : Ow H H2 [] := ox.call (Ow.left (L := []) o2)
        clear hRR keep o2 o1 oz1 hR1
        obtain ⟨m1, m2⟩ := mem14 hVb
        refine (zeJ q u k l w ll H2 r1 (by omega) r2 m1 m2).ex ?_
        intro x1 H3 o3
        have hx1 := o3.one 0 rfl
        have g3' := o3.old sc2 _ _ g3
        refine Holds.mp ?_
        try simp (disch := first | omega | (simp only [L3] <;> omega)) only [Sall,evalOp,init,binA_s,binE,binI,unE,convE,okNil,builtE,gv,TD.isAgg,resV,↓reduceIte,Nat.reduceEqDiff,reduceCtorEq,Nat.reduceAdd,Nat.reduceMul,Nat.reduceLeDiff,za0,za2,Int.reduceEq,Int.reduceLT,Int.reduceLE,Nat.reduceLT,tiA,tiXA, hx1, g3', hu, hw]
        refine (specBreaksOf_c q u k l w ll H3 (r1.same (o3.old sc2)) (by omega) (r2.same (o3.old sc2)) m1 m2).ex ?_
        intro x2 H4 o4
        have hx2 := o4.one 0 rfl
        have o34 := o3.call o4
        have oz4 : Ow H H4 [.sl 1 2 x1 (brkR q k l ll).length (ints (brkR q k l ll)), .sl 1 2 x2 (brkR q k l ll).length (ints (brkR q k l ll))] := oz2.call o34
        have hbl := brkR_len q k l ll
        generalize brkR q k l ll = B1 at oz4 hbl
        generalize codeV q k l ll true = C1
        refine Holds.mp ?_
        try simp (disch := first | omega | (simp only [L3] <;> omega)) only [Sall,evalOp,init,binA_s,binE,binI,unE,convE,okNil,builtE,gv,TD.isAgg,resV,↓reduceIte,Nat.reduceEqDiff,reduceCtorEq,Nat.reduceAdd,Nat.reduceMul,Nat.reduceLeDiff,za0,za2,Int.reduceEq,Int.reduceLT,Int.reduceLE,Nat.reduceLT,tiA,tiXA, hx2, h0, hone]
        refine ACalls.ex2 (g := fun (p : (Int × Value) × Value) (a : Int) => .tuple #[.agg #[.int .i64 p.1.1, p.1.2], p.2, .int .i64 a]) (drawPatternOf_c cv nb H4 hnb (codeUp hc (oz4.old hs))) ?_
        clear r1 r2 g3 g3' o3 o4 o34 sc2 hu hw hVb m1 m2 hb hk hq oz2
        rintro ⟨⟨q, u⟩, w⟩ a H5 ⟨hna, k, l, ll, hq, hk, hb, hVb, hRR, o1⟩
        dsimp only at hq hRR
        have hR1 := hRR H5 fun i r _ h => h
        have hu := hR1.1.one
        have hw := hR1.2.one
        have o2 := (o1.push ⟨26, true, [.int .i64 0, .slice none 0 0]⟩).putRow 0 rfl (cs' := [.int .i64 q, u])
        refine Holds.mp ?_
        try simp (disch := first | omega | (simp only [L3] <;> omega)) only [Sall,evalOp,init,binA_s,binE,binI,unE,convE,okNil,builtE,gv,TD.isAgg,resV,↓reduceIte,Nat.reduceEqDiff,reduceCtorEq,Nat.reduceAdd,Nat.reduceMul,Nat.reduceLeDiff,za0,za2,Int.reduceEq,Int.reduceLT,Int.reduceLE,Nat.reduceLT,tiA,tiXA, hu, hw]
        obtain ⟨ei, eei⟩ : ∃ ei, ei = H5.next := ⟨_, rfl⟩
        rw [← eei] at o2 ⊢
        have keep : ∀ i r, H5.row i = some r → ((H5.push ⟨26, true, [.int .i64 0, .slice none 0 0]⟩).setCells ei [.int .i64 q, u]).row i = some r := fun i r hr => by
          have := o1.sc _ _ hr
          rw [AH.setCells_row, if_neg (by omega), AH.push_row, if_neg (by omega)]; exact hr
        generalize (H5.push ⟨26, true, [.int .i64 0, .slice none 0 0]⟩).setCells ei [.int .i64 q, u] = H6 at o2 keep ⊢
        have g3 : H6.row ei = some ⟨26, true, [.int .i64 q, u]⟩ := (o2.rowAt 0 rfl).1
        obtain ⟨r1, r2⟩ := hRR H6 fun i r _ h => keep i r h
        have sc6 := o2.sc
        have oz6 := oz4.call o2
        clear hRR keep o2 o1 hR1
        obtain ⟨m1, m2⟩ := mem14 hVb
        refine (zeX q u k l w ll a H6 r1 (by omega) r2 m1 m2).ex ?_
        intro y1 H7 o7
        have hy1 := o7.one 0 rfl
        have g3' := o7.old sc6 _ _ g3
        refine Holds.mp ?_
        try simp (disch := first | omega | (simp only [L3] <;> omega)) only [Sall,evalOp,init,binA_s,binE,binI,unE,convE,okNil,builtE,gv,TD.isAgg,resV,↓reduceIte,Nat.reduceEqDiff,reduceCtorEq,Nat.reduceAdd,Nat.reduceMul,Nat.reduceLeDiff,za0,za2,Int.reduceEq,Int.reduceLT,Int.reduceLE,Nat.reduceLT,tiA,tiXA, hy1, g3', hu, hw]
        refine (specPatternOf_c q u k l w ll a H7 (r1.same (o7.old sc6)) (by omega) (r2.same (o7.old sc6)) m1 m2).ex ?_
        intro y2 H8 o8
        have hy2 := o8.one 0 rfl
        have o78 := o7.call o8
        have oz8 := oz6.call o78
        have hpl := patR_len (q := q) (k := k) (l := l) (ll := ll) (by have := hVb.len; omega) a
        refine Holds.mp ?_
        try simp (disch := first | omega | (simp only [L3] <;> omega)) only [Sall,evalOp,init,binA_s,binE,binI,unE,convE,okNil,builtE,gv,TD.isAgg,resV,↓reduceIte,Nat.reduceEqDiff,reduceCtorEq,Nat.reduceAdd,Nat.reduceMul,Nat.reduceLeDiff,za0,za2,Int.reduceEq,Int.reduceLT,Int.reduceLE,Nat.reduceLT,tiA,tiXA, hy2, beq_self_eq_true, hx1, hx2]
        refine (zdF x1 x2 _ B1 H8 (by omega) (oz8.rd 0 rfl) (oz8.rd 1 rfl)).to ?_
        refine Holds.mp ?_
        try simp (disch := first | omega | (simp only [L3] <;> omega)) only [Sall,evalOp,init,binA_s,binE,binI,unE,convE,okNil,builtE,gv,TD.isAgg,resV,↓reduceIte,Nat.reduceEqDiff,reduceCtorEq,Nat.reduceAdd,Nat.reduceMul,Nat.reduceLeDiff,za0,za2,Int.reduceEq,Int.reduceLT,Int.reduceLE,Nat.reduceLT,tiA,tiXA, hy1, hy2, beq_self_eq_true]
        refine (zdF y1 y2 _ (patR q k l ll a) H8 (by omega) (o78.rd 0 rfl) (o78.rd 1 rfl)).to ?_
        refine Holds.mp ?_
        try simp (disch := first | omega | (simp only [L3] <;> omega)) only [Sall,evalOp,init,binA_s,binE,binI,unE,convE,okNil,builtE,gv,TD.isAgg,resV,↓reduceIte,Nat.reduceEqDiff,reduceCtorEq,Nat.reduceAdd,Nat.reduceMul,Nat.reduceLeDiff,za0,za2,Int.reduceEq,Int.reduceLT,Int.reduceLE,Nat.reduceLT,tiA,tiXA, true_and]
end Go.Proofs.YtemgclojolmhbaaGreat.A
end

section
set_option maxRecDepth 100000
namespace Go.Proofs.YtemgclojolmhbaaGreat.A
open Go Go.Abs Go.RowKit
section
variable {K : Type} {enc : TypeId × Value → K} {W : World} {base b0 : Nat} {spare : Nat → Bool} {held : Bool}
end
end Go.Proofs.YtemgclojolmhbaaGreat.A
end

section
set_option maxRecDepth 100000
namespace Go.Proofs.YtemgclojolmhbaaGreat.A
open Go Go.Abs Go.RowKit
section
variable {K : Type} {enc : TypeId × Value → K} {W : World} {b0 : Nat} {spare : Nat → Bool} {held : Bool} {v : Value} {d : DataW K} {p : List MemPlace}
theorem cell_of_val {t e : TypeId} (hu : Tryz.prog.underlying t = some (.slice e)) (hok : Value.okWide Tryz.prog W .any b0 t v) : Cell.okWide Tryz.prog W .any 0 t v := by
  unfold Value.okWide at hok
  rw [hu] at hok
  exact hok
theorem cells_slice1 {t e : TypeId} (hu : Tryz.prog.underlying t = some (.slice e)) (hok : Cell.okWide Tryz.prog W .any 0 t v) : v.cells.toList = [v] := by
  rcases zdS hu hok with rfl | ⟨b, o, n, c, rfl, _⟩ <;> rfl
end
end Go.Proofs.YtemgclojolmhbaaGreat.A
end

section
set_option maxRecDepth 100000
namespace Go.Proofs.YtemgclojolmhbaaGreat.A
open Go Go.Abs Go.RowKit
theorem uByte : Tryz.prog.underlying 5 = some (.int .u8) := by kernel_rfl
theorem uBytes : Tryz.prog.underlying 22 = some (.slice 5) := by kernel_rfl
theorem cByte : Tryz.prog.cellsOf 5 = 1 := by kernel_rfl
section
variable {K : Type} {enc : TypeId × Value → K} {W : World} {b0 : Nat} {spare : Nat → Bool} {held : Bool} {v : Value} {d : DataW K} {p : List MemPlace}
theorem open_B (h : DataW.Trod enc Tryz.prog W 0 spare held 22 v d p) (hok : Value.okWide Tryz.prog W .any b0 22 v) :
    ∃ nb, CodeOk (given W) v nb ∧ V1 id W.heap.size W v v ∧ nb ≤ 9223372036854775807 := by
  have h0 := cell_of_val uBytes hok
  obtain ⟨fuel, h⟩ := h
  rw [cells_slice1 uBytes h0] at h
  rcases zdS uBytes h0 with rfl | ⟨b, o, n, c, rfl, hb, hn⟩
  · exact ⟨0, .inl ⟨rfl, _, _, rfl⟩, .scal _ rfl, by omega⟩
  · refine ⟨n, ?_, V1.sle (ρ := id) b o n c hb, hn⟩
    rcases DataW.trod_slice uBytes h with ⟨h0, _⟩ | ⟨a, len, cap, elems, rest, m, _, hcs, _, _, _, _, hlen, hel, _, _⟩
    · simp at h0
    · simp only [List.cons.injEq, Value.slice.injEq, Option.some.injEq, and_true] at hcs
      obtain ⟨rfl, rfl, rfl⟩ := hcs
      have each : ∀ j, j < n → ∃ z, W.cell? ⟨b, o + j, none⟩ = some (.int .u8 z) ∧ 0 ≤ z ∧ z ≤ 255 := by
        intro j hj
        have h1 := hel j hj
        rw [List.getElem?_eq_getElem (by omega), cByte, Option.bind_eq_some_iff] at h1
        obtain ⟨cs', hc1, hc2⟩ := h1
        obtain ⟨_, hl, hc⟩ := World.cells?_some hc1
        have h2 := hc 0 (by omega)
        obtain ⟨z, hz, _, hw⟩ := DataW.trod_int uByte hc2
        refine ⟨z, ?_, ?_⟩
        · rw [hz] at h2
          rw [Addr.add_lit, Addr.add_lit] at h2
          simpa using h2
        · unfold Lit.wf at hw
          simp only [Bool.and_eq_true, decide_eq_true_eq] at hw
          exact hw
      rcases Nat.eq_zero_or_pos n with h0 | h0
      · exact .inl ⟨h0, _, _, by rw [h0]⟩
      · refine .inr ⟨b, o, none, c, ⟨0, false, absRow W b⟩, rfl, ?_, fun j hj => ?_⟩
        · obtain ⟨z, hz, _⟩ := each 0 h0
          exact (zg5 hz).2.1
        · obtain ⟨z, hz, z1, z2⟩ := each j hj
          exact ⟨z, (zg5 hz).2.2, z1, z2⟩
end
end Go.Proofs.YtemgclojolmhbaaGreat.A
end
