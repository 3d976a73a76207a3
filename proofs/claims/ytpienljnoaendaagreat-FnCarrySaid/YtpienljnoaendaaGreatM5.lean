/- Draws: an evening that is seldom none; with a number. And what follows. -/
import Derived.Test.YtpienljnoaendaaGreatM4
set_option linter.unusedSimpArgs false
set_option linter.unusedVariables false
section
set_option maxRecDepth 100000
set_option maxHeartbeats 2000000
namespace Go.Proofs.YtpienljnoaendaaGreat.A
open Go Go.Abs Go.RowKit
end Go.Proofs.YtpienljnoaendaaGreat.A
end

section
set_option maxRecDepth 100000
set_option maxHeartbeats 2000000
namespace Go.Proofs.YtpienljnoaendaaGreat.A
open Go Go.Abs Go.RowKit
theorem Dq.lowEq {cv : Value} {nb si : Nat} {H H' : AH} {L : List Th} (h : Dq cv nb si H H' L) {i : Nat} (hi : i < H.next) (hs : i ≠ si) : H'.row i = H.row i := by
  obtain ⟨B, b, o⟩ := h.ex
  rw [o.low i (by rw [b.next]; exact hi), b.row i hs]
theorem Dq.shift {cv : Value} {nb si : Nat} {H H' : AH} {L : List Th} (h : Dq cv nb si H H' L) {i : Nat} (hi : i < H.next) (cs : List Value) : ∃ B, B.next = H.next ∧ Ow B (H'.setCells i cs) L := by
  obtain ⟨B, b, o⟩ := h.ex
  have hb := b.next
  refine ⟨⟨B.next, fun j => (H'.setCells i cs).row j⟩, hb, o.sc.set _ _, o.next, fun j hj => rfl, ?_⟩
  obtain ⟨w, hw⟩ := o.own
  refine ⟨w, fun k p hk => p.loc H' _ _ _ (fun j hj => hj) (fun j r hj hr => ?_) (hw k p hk)⟩
  have : B.next ≤ j := hj.1
  rw [AH.setCells_row, if_neg (by omega)]; exact hr
theorem Dq.rsx {cv : Value} {nb si : Nat} {H H' : AH} {L : List Th} (d : Dq cv nb si H H' L) (hsi : si < H.next) (k : Nat) {z n : Nat} {ty : TypeId} {v : Value} {l : List Int} (hk : L[k]? = some (.cap z ty v n (ints l))) : RsX si z H' v n l := fun H2 h2 => by
  obtain ⟨B, b, o⟩ := d.ex
  obtain ⟨S, hS, hp⟩ := o.at hk
  have hp2 := (Th.cap z ty v n (ints l)).loc H' H2 S S (fun _ h => h) (fun i r hi hr => h2 i r (by have := (hS i hi).1; have := b.next; omega) hr) hp
  refine ⟨cap_rs hp2, fun i o u m c e => ?_⟩
  rcases hp2.2 with ⟨_, h1⟩ | ⟨i', rest, _, h1, h3⟩
  · rw [e] at h1; cases h1
  · rw [e] at h1; cases h1
    exact ⟨_, h3, Nat.zero_le _⟩
theorem Rs.later {z n : Nat} {H H' : AH} {v : Value} {l : List Int} (h : Rs z H v n l) (hs : ∀ i r, H.row i = some r → H'.row i = some r) : Rs z H' v n l := h.same hs
end Go.Proofs.YtpienljnoaendaaGreat.A
end

section
set_option maxRecDepth 100000
set_option maxHeartbeats 2000000
namespace Go.Proofs.YtpienljnoaendaaGreat.A
open Go Go.Abs Go.RowKit
theorem codeUp {cv : Value} {nb : Nat} {H H' : AH} (h : CodeOk H cv nb) (k : ∀ i r, H.row i = some r → H'.row i = some r) : CodeOk H' cv nb := by
  rcases h with h | ⟨i, o, u, c, r, q1, q2, q3⟩
  · exact .inl h
  · exact .inr ⟨i, o, u, c, r, q1, k _ _ q2, q3⟩
theorem ACalls.ex3 {P : Program} {f : FuncId} {args : List Value} {H : AH} {α β γ : Type} {g : α → β → γ → Value} {X : α → β → γ → AH → Prop} {R : Value → AH → Prop} (h : ACalls P f args H (fun v H' => ∃ a b c, v = g a b c ∧ X a b c H')) (k : ∀ a b c H', X a b c H' → R (g a b c) H') : ACalls P f args H R :=
  h.mono fun v H' hh => by obtain ⟨a, b, c, rfl, hx⟩ := hh; exact k _ _ _ _ hx
end Go.Proofs.YtpienljnoaendaaGreat.A
end

section
set_option maxRecDepth 100000
set_option maxHeartbeats 2000000
namespace Go.Proofs.YtpienljnoaendaaGreat.A
open Go Go.Abs Go.RowKit
theorem awp_cut4 {P : Program} {a b c d e : Code} {Q : Exit → T → AH → Prop} {t : T} {H : AH} (M : T → AH → Prop) (h : awp P (a.seq (b.seq (c.seq d))) (seqQ M Q) t H) (k : ∀ t H, M t H → awp P e Q t H) : awp P (a.seq (b.seq (c.seq (d.seq e)))) Q t H := by
  rw [awp_seq] at h ⊢
  refine awp_mono a _ _ t H (fun e t H h => ?_) h
  cases e with
  | normal => exact awp_cut3 M h k
  | _ => exact h
theorem digS_bd : ∀ n ∈ [2, 4, 8], ∀ x : Nat, x < n → ((digS (x : Int) n).all fun y => decide (0 ≤ y ∧ y < (n : Int))) = true := by decide +kernel
theorem digVL {n : Nat} (hn : n ∈ [2, 4, 8]) {y : List Int} (hy : ∀ x ∈ y, 0 ≤ x ∧ x < (n : Int)) : VL n (digL n y) := fun z hz => by
  unfold digL at hz
  rw [List.mem_flatMap] at hz
  obtain ⟨x, hx, hz⟩ := hz
  obtain ⟨x', rfl⟩ : ∃ x' : Nat, x = x' := ⟨x.toNat, by have := (hy x hx).1; omega⟩
  have h := digS_bd n hn x' (by have := (hy _ hx).2; omega)
  rw [List.all_eq_true] at h
  exact of_decide_eq_true (h z hz)
structure UpTo (n c : Nat) (y : List Int) : Prop where
  len : y.length = n
  lo : ∀ j, j < c → 1 ≤ y.getD j 0 ∧ y.getD j 0 ≤ (n : Int)
  hi : ∀ j, c ≤ j → j < n → 0 ≤ y.getD j 0 ∧ y.getD j 0 < (n : Int)
theorem UpTo.zero {n : Nat} {y : List Int} (h : PermL n y) : UpTo n 0 y := ⟨h.len, fun j hj => by omega, fun j _ hj => h.rng _ (by rw [List.getD_eq_getElem?_getD, List.getElem?_eq_getElem (by rw [h.len]; exact hj)]; exact List.getElem_mem _)⟩
theorem getD_set {y : List Int} {c j : Nat} {x : Int} (hc : c < y.length) : (y.set c x).getD j 0 = if j = c then x else y.getD j 0 := by
  rw [List.getD_eq_getElem?_getD, List.getD_eq_getElem?_getD, List.getElem?_set]
  by_cases e : c = j
  · subst e; simp [hc]
  · rw [if_neg e, if_neg (fun h => e h.symm)]
theorem UpTo.succ {n c : Nat} {y : List Int} (h : UpTo n c y) (hc : c < n) : UpTo n (c + 1) (y.set c (y.getD c 0 + 1)) := by
  have hl := h.len
  refine ⟨by rw [List.length_set]; exact hl, fun j hj => ?_, fun j hj hn => ?_⟩
  · rw [getD_set (by omega)]
    by_cases e : j = c
    · rw [if_pos e]; have := h.hi c (Nat.le_refl _) hc; omega
    · rw [if_neg e]; exact h.lo j (by omega)
  · rw [getD_set (by omega), if_neg (by omega)]
    exact h.hi j (by omega) hn
theorem UpTo.rng {n : Nat} {y : List Int} (h : UpTo n n y) : ∀ x ∈ y, 1 ≤ x ∧ x ≤ (n : Int) := fun x hx => by
  obtain ⟨j, hj, rfl⟩ := List.mem_iff_getElem.1 hx
  have := h.lo j (by rw [h.len] at hj; exact hj)
  rw [List.getD_eq_getElem?_getD, List.getElem?_eq_getElem hj] at this
  exact this
def WithB (H : AH) (p : Int × Value) (H' : AH) : Prop :=
  ∃ (k : Nat) (l : List Int), (-1 ≤ p.1 ∧ p.1 ≤ 15) ∧ k ≤ 41 ∧ (∀ x, x ∈ l → -1 ≤ x ∧ x ≤ 14) ∧ (∀ H2, (∀ i r, H.next ≤ i → H'.row i = some r → H2.row i = some r) → Rd 14 H2 p.2 k l) ∧ Ow H H' []
def DrawnB (H : AH) (r : Value) (H' : AH) : Prop := ∃ p : Int × Value, r = .agg #[.int .i64 p.1, p.2] ∧ WithB H p H'
theorem Ow.three {B H : AH} {a b c : Th} (o : Ow B H [a, b, c]) : Ow B H [c, b] :=
  o.sub (fun j => ([2, 1] : List Nat).getD j 9) (fun j hj => by
    have hj : j < 2 := hj
    rcases j with _ | _ | j <;> first | rfl | omega) (fun x y hx hy h => by
    have hh : ∀ x, x < 2 → ∀ y, y < 2 → ([2, 1] : List Nat).getD x 9 = ([2, 1] : List Nat).getD y 9 → x = y := by decide
    exact hh x hx y hy h)
theorem l09Draw_c (cv : Value) (nb : Nat) (H : AH) (hnb : nb ≤ 4611686018427387904) (hc0 : CodeOk H cv nb) :
    ACalls Tryz.prog 188 [cv] H (DrawnB H) := by
  refine ACalls.wf (by kernel_rfl) fun hsc0 => acalls_of_awp [.cell 2 26] Tryz.func188 (by kernel_rfl) rfl rfl (Nat.le_of_ble_eq_true rfl) (by kernel_rfl) ?_
  refine awp_cut4 (fun t H' => ∃ (n k ri : Nat) (u : Value) (l : List Int) (H1 H2 : AH), t 2 = .pointer (some ⟨H.next, 0, none⟩) ∧ t 3 = .pointer (some ⟨H1.next, 0, none⟩) ∧ t 4 = .pointer (some ⟨ri, 0, none⟩) ∧ (2 ≤ n ∧ n ≤ 14) ∧ k ≤ 40 ∧ VL n l ∧
    Ow H H1 [.row H.next ⟨26, true, [.int .i64 0, .slice none 0 0]⟩] ∧ Up H1.next H1 H2 ∧ Sc H2 ∧ H1.next < H2.next ∧ CodeX cv nb H1.next H2 ∧ Src cv nb H1.next H2 ∧
    Dq cv nb H1.next H2 H' [.cap 14 69 u k (ints l), .row ri ⟨26, true, [.int .i64 n, u]⟩]) ?_ ?_
  · have o1 := (Ow.refl hsc0).push ⟨26, true, [.int .i64 0, .slice none 0 0]⟩
    have hb : ∀ (t : T) (H : AH), evalOp Tryz.prog t H (.buildSlice 33 8 #[(0, .const (.int .i64 2)), (1, .const (.int .i64 4)), (2, .const (.int .i64 6)), (3, .const (.int .i64 6)), (4, .const (.int .i64 8)), (5, .const (.int .i64 8)), (6, .const (.int .i64 10)), (7, .const (.int .i64 12))]) = .need (8 ≤ 16777216 ∧ 8 * 1 ≤ 16777216) (.val (.slice (some ⟨H.next, 0, some 1⟩) 8 8) (H.push ⟨2, true, ints [2, 4, 6, 6, 8, 8, 10, 12]⟩)) := fun t H => by kernel_rfl
    generalize (Op.buildSlice 33 8 #[(0, .const (.int .i64 2)), (1, .const (.int .i64 4)), (2, .const (.int .i64 6)), (3, .const (.int .i64 6)), (4, .const (.int .i64 8)), (5, .const (.int .i64 8)), (6, .const (.int .i64 10)), (7, .const (.int .i64 12))]) = bop at hb ⊢
    have hone := hc0.one
    simp (config := {maxSteps := 3000000}) (disch := first | omega | (simp only [L3] <;> omega)) only [Sall,evalOp,init,binA_s,binE,binI,unE,convE,okNil,builtE,gv,TD.isAgg,resV,↓reduceIte,Nat.reduceEqDiff,reduceCtorEq,Nat.reduceAdd,Nat.reduceMul,Nat.reduceLeDiff,quietOp,blindOp,Int.reduceEq,Int.reduceLT,Int.reduceLE,Nat.reduceLT,tiA,tiXA, ↓hb, hone]
    generalize H.push ⟨26, true, [.int .i64 0, .slice none 0 0]⟩ = H1 at o1 ⊢
    have hc1 : CodeOk H1 cv nb := codeUp hc0 (o1.old hsc0)
    refine (l01From_c cv nb H1 hnb hc1).fin ?_
    rintro H2 ⟨up2, hsc, hsi, hs⟩
    have hc := CodeX.of hc1 o1.sc up2
    have d0 := Dq.start hs hsc
    refine Holds.mp ?_
    simp (config := {maxSteps := 3000000}) (disch := first | omega | (simp only [L3] <;> omega)) only [Sall,evalOp,init,binA_s,binE,binI,unE,convE,okNil,builtE,gv,TD.isAgg,resV,↓reduceIte,Nat.reduceEqDiff,reduceCtorEq,Nat.reduceAdd,Nat.reduceMul,Nat.reduceLeDiff,quietOp,blindOp,Int.reduceEq,Int.reduceLT,Int.reduceLE,Nat.reduceLT,tiA,tiXA, ↓hb]
    refine (pickL [2, 4, 6, 6, 8, 8, 10, 12] 8 rfl (by omega) (by omega) d0 hsi hc hsc hnb).ex ?_
    rintro x H3 ⟨hx, d1⟩
    have hx2 : 2 ≤ x ∧ x ≤ 14 := by
      simp only [List.mem_cons, List.not_mem_nil, or_false] at hx
      omega
    obtain ⟨n, rfl⟩ : ∃ n : Nat, x = n := ⟨x.toNat, by omega⟩
    have hn : 2 ≤ n ∧ n ≤ 14 := by omega
    refine Holds.mp ?_
    try simp (disch := first | omega | (simp only [L3] <;> omega)) only [Sall,evalOp,init,binA_s,binE,binI,unE,convE,okNil,builtE,gv,TD.isAgg,resV,↓reduceIte,Nat.reduceEqDiff,reduceCtorEq,Nat.reduceAdd,Nat.reduceMul,Nat.reduceLeDiff,quietOp,blindOp,Int.reduceEq,Int.reduceLT,Int.reduceLE,Nat.reduceLT,tiA,tiXA, true_and]
    refine (ACalls.scz (circleS_c n hn H3)).ex ?_
    rintro u H4 ⟨⟨up3, fr3⟩, sc3⟩
    have o3 := Ow.of_fr up3 sc3 fr3
    have hu := o3.one 0 rfl
    have d2 : Dq cv nb H1.next H2 H4 [.sl 14 69 u (oddUp n) (ints (circleL n (oddUp n)))] := d1.calls o3
    have d3 := ((d2.toCap 0 rfl).push ⟨26, true, [.int .i64 0, .slice none 0 0]⟩).putRow 1 rfl (cs' := [.int .i64 n, u])
    have hV := circleVL hn
    have hk : 1 ≤ oddUp n ∧ oddUp n ≤ 13 := by unfold oddUp; omega
    revert d3 hV hk
    generalize circleL n (oddUp n) = l
    generalize oddUp n = k
    intro d3 hV hk
    refine Holds.mp ?_
    try simp (disch := first | omega | (simp only [L3] <;> omega)) only [Sall,evalOp,init,binA_s,binE,binI,unE,convE,okNil,builtE,gv,TD.isAgg,resV,↓reduceIte,Nat.reduceEqDiff,reduceCtorEq,Nat.reduceAdd,Nat.reduceMul,Nat.reduceLeDiff,quietOp,blindOp,Int.reduceEq,Int.reduceLT,Int.reduceLE,Nat.reduceLT,tiA,tiXA, hu]
    obtain ⟨ri, eri⟩ : ∃ ri, ri = H4.next := ⟨_, rfl⟩
    have nri : ¬ ri = H1.next := by have := d2.le; omega
    rw [← eri] at d3 ⊢
    generalize (H4.push ⟨26, true, [.int .i64 0, .slice none 0 0]⟩).setCells ri [.int .i64 n, u] = H5 at d3 ⊢
    refine (nextD 4 d3 hsi hc hsc hnb (by omega)).ex ?_
    rintro y H6 ⟨hy, d4⟩
    have d4 : Dq cv nb H1.next H2 H6 [.cap 14 69 u k (ints l), .row ri ⟨26, true, [.int .i64 n, u]⟩] := d4
    refine Holds.mp ?_
    by_cases c0 : (y : Int) = 0
    · have f0 : ((y : Int) == 0) = true := beq_iff_eq.2 c0
      try simp (disch := first | omega | (simp only [L3] <;> omega)) only [Sall,evalOp,init,binA_s,binE,binI,unE,convE,okNil,builtE,gv,TD.isAgg,resV,↓reduceIte,Nat.reduceEqDiff,reduceCtorEq,Nat.reduceAdd,Nat.reduceMul,Nat.reduceLeDiff,quietOp,blindOp,Int.reduceEq,Int.reduceLT,Int.reduceLE,Nat.reduceLT,tiA,tiXA, f0]
      refine (l01DrawOrder_c cv nb H1.next 7 H6 (by omega) hnb (d4.src hsi) (d4.code hc hsc)).mono ?_
      rintro w H7 ⟨y0, B7, k7, o7, hp⟩
      have hp : PermL 7 y0 := hp
      have o7 : Ow B7 H7 [.sl 1 2 w 7 (ints y0)] := o7
      have d5 := d4.call hsi k7 o7
      obtain ⟨wi, _, _, rfl, _⟩ := o7.get 0 rfl (by omega)
      refine Holds.mp ?_
      try simp (disch := first | omega | (simp only [L3] <;> omega)) only [Sall,evalOp,init,binA_s,binE,binI,unE,convE,okNil,builtE,gv,TD.isAgg,resV,↓reduceIte,Nat.reduceEqDiff,reduceCtorEq,Nat.reduceAdd,Nat.reduceMul,Nat.reduceLeDiff,quietOp,blindOp,Int.reduceEq,Int.reduceLT,Int.reduceLE,Nat.reduceLT,tiA,tiXA, true_and]
      refine awp_loop (fun z t H' => ∃ (c : Nat) (y : List Int), z = 7 - c ∧ c ≤ 7 ∧ t 6 = .int .i64 c ∧ t 5 = .slice (some ⟨wi, 0, some 1⟩) 7 7 ∧ t 2 = .pointer (some ⟨H.next, 0, none⟩) ∧ t 3 = .pointer (some ⟨H1.next, 0, none⟩) ∧ t 4 = .pointer (some ⟨ri, 0, none⟩) ∧ UpTo 7 c y ∧
        Dq cv nb H1.next H2 H' [.cap 14 69 u k (ints l), .row ri ⟨26, true, [.int .i64 n, u]⟩, .sl 1 2 (.slice (some ⟨wi, 0, some 1⟩) 7 7) 7 (ints y)]) 7 ?_ ?_
      · refine ⟨0, y0, by omega, by omega, ?_⟩
        try simp (disch := first | omega | (simp only [L3] <;> omega)) only [Sall,evalOp,init,binA_s,binE,binI,unE,convE,okNil,builtE,gv,TD.isAgg,resV,↓reduceIte,Nat.reduceEqDiff,reduceCtorEq,Nat.reduceAdd,Nat.reduceMul,Nat.reduceLeDiff,quietOp,blindOp,Int.reduceEq,Int.reduceLT,Int.reduceLE,Nat.reduceLT,tiA,tiXA, Int.natCast_zero]
        exact ⟨UpTo.zero hp, d5⟩
      · rintro z t H' ⟨c, y, hz, hc7, h6, h5, h2, h3, h4, hU, d6⟩
        try simp (disch := first | omega | (simp only [L3] <;> omega)) only [Sall,evalOp,init,binA_s,binE,binI,unE,convE,okNil,builtE,gv,TD.isAgg,resV,↓reduceIte,Nat.reduceEqDiff,reduceCtorEq,Nat.reduceAdd,Nat.reduceMul,Nat.reduceLeDiff,quietOp,blindOp,Int.reduceEq,Int.reduceLT,Int.reduceLE,Nat.reduceLT,tiA,tiXA, h6, h5, builtE]
        have hyl := hU.len
        obtain ⟨B, hB, o6⟩ := id d6.ex
        have rw6 := (o6.getV 2 rfl).2.2
        refine condC_dec (fun hh => ?_) (fun hh => ?_)
        · have hc7' : c < 7 := by omega
          have k1 := ints_get? y c (by omega)
          have hb1 := hU.hi c (by omega) hc7'
          try simp (disch := first | omega | (simp only [L3] <;> omega)) only [Sall,evalOp,init,binA_s,binE,binI,unE,convE,okNil,builtE,gv,TD.isAgg,resV,↓reduceIte,Nat.reduceEqDiff,reduceCtorEq,Nat.reduceAdd,Nat.reduceMul,Nat.reduceLeDiff,quietOp,blindOp,Int.reduceEq,Int.reduceLT,Int.reduceLE,Nat.reduceLT,tiA,tiXA, h6, h5, rw6, k1, hyl, ints_set, w64]
          (repeat refine And.intro (by omega) ?_)
          try simp (disch := first | omega | (simp only [L3] <;> omega)) only [Sall,evalOp,init,binA_s,binE,binI,unE,convE,okNil,builtE,gv,TD.isAgg,resV,↓reduceIte,Nat.reduceEqDiff,reduceCtorEq,Nat.reduceAdd,Nat.reduceMul,Nat.reduceLeDiff,quietOp,blindOp,Int.reduceEq,Int.reduceLT,Int.reduceLE,Nat.reduceLT,tiA,tiXA, h6, h5, h2, h3, h4, rw6, k1, hyl, ints_set, w64]
          exact ⟨7 - (c + 1), by omega, c + 1, _, rfl, by omega, rfl, hU.succ hc7', d6.map fun B o => o.put 2 rfl (by rw [ints_length, ints_length, List.length_set])⟩
        · obtain rfl : c = 7 := by omega
          have hr := hU.rng
          have e7 : (7 : Nat) = y.length := hyl.symm
          have hRd := d6.rd 2 rfl
          try simp (disch := first | omega | (simp only [L3] <;> omega)) only [Sall,evalOp,init,binA_s,binE,binI,unE,convE,okNil,builtE,gv,TD.isAgg,resV,↓reduceIte,Nat.reduceEqDiff,reduceCtorEq,Nat.reduceAdd,Nat.reduceMul,Nat.reduceLeDiff,quietOp,blindOp,Int.reduceEq,Int.reduceLT,Int.reduceLE,Nat.reduceLT,tiA,tiXA, h5]
          refine (ACalls.scz (l09Robin_c 8 _ y H' (by omega) (by rw [hyl]; exact hRd) (by omega))).ex ?_
          rintro u2 H8 ⟨⟨up8, fr8⟩, sc8⟩
          rw [hyl] at fr8
          have o8 := Ow.of_fr up8 sc8 fr8
          have d7 := (d6.calls o8).toCap 3 rfl
          have g1 := d7.rowAt 1 rfl
          have hu2 := o8.one 0 rfl
          refine Holds.mp ?_
          try simp (disch := first | omega | (simp only [L3] <;> omega)) only [Sall,evalOp,init,binA_s,binE,binI,unE,convE,okNil,builtE,gv,TD.isAgg,resV,↓reduceIte,Nat.reduceEqDiff,reduceCtorEq,Nat.reduceAdd,Nat.reduceMul,Nat.reduceLeDiff,quietOp,blindOp,Int.reduceEq,Int.reduceLT,Int.reduceLE,Nat.reduceLT,tiA,tiXA, h4, g1, hu2]
          refine ⟨8, 7, ri, u2, digL 8 y, H1, H2, ?_⟩
          try simp (disch := first | omega | (simp only [L3] <;> omega)) only [Sall,evalOp,init,binA_s,binE,binI,unE,convE,okNil,builtE,gv,TD.isAgg,resV,↓reduceIte,Nat.reduceEqDiff,reduceCtorEq,Nat.reduceAdd,Nat.reduceMul,Nat.reduceLeDiff,quietOp,blindOp,Int.reduceEq,Int.reduceLT,Int.reduceLE,Nat.reduceLT,tiA,tiXA, h2, h3, h4]
          exact ⟨digVL (n := 8) (by simp) (fun x hx => by have := hr x hx; omega), o1, up2, hsc, hsi, hc, hs, (d7.putRow 1 rfl).map fun B o => Ow.pick2 o 3 1 rfl rfl (by decide)⟩
    have f0 : ((y : Int) == 0) = false := beq_eq_false_iff_ne.2 c0
    by_cases c1 : (y : Int) = 1
    · have f1 : ((y : Int) == 1) = true := beq_iff_eq.2 c1
      try simp (disch := first | omega | (simp only [L3] <;> omega)) only [Sall,evalOp,init,binA_s,binE,binI,unE,convE,okNil,builtE,gv,TD.isAgg,resV,↓reduceIte,Nat.reduceEqDiff,reduceCtorEq,Nat.reduceAdd,Nat.reduceMul,Nat.reduceLeDiff,quietOp,blindOp,Int.reduceEq,Int.reduceLT,Int.reduceLE,Nat.reduceLT,tiA,tiXA, f0, f1]
      refine ACalls.ex4 (g := fun n _ u _ => .agg #[.int .i64 (n : Nat), u]) (l01DrawRobin_c cv nb H1.next H6 hnb (d4.src hsi) (d4.code hc hsc)) ?_
      rintro n2 k2 u2 l2 H7 ⟨hn1, hn2, hk1, hk2, hV2, e2⟩
      have d5 := (d4.bind hsi e2).toCap 2 rfl
      have g1 := d5.rowAt 1 rfl
      have hu2 := d5.capOne 2 rfl
      refine Holds.mp ?_
      try simp (disch := first | omega | (simp only [L3] <;> omega)) only [Sall,evalOp,init,binA_s,binE,binI,unE,convE,okNil,builtE,gv,TD.isAgg,resV,↓reduceIte,Nat.reduceEqDiff,reduceCtorEq,Nat.reduceAdd,Nat.reduceMul,Nat.reduceLeDiff,quietOp,blindOp,Int.reduceEq,Int.reduceLT,Int.reduceLE,Nat.reduceLT,tiA,tiXA, g1, hu2]
      refine ⟨n2, k2, ri, u2, l2, H1, H2, ?_⟩
      try simp (disch := first | omega | (simp only [L3] <;> omega)) only [Sall,evalOp,init,binA_s,binE,binI,unE,convE,okNil,builtE,gv,TD.isAgg,resV,↓reduceIte,Nat.reduceEqDiff,reduceCtorEq,Nat.reduceAdd,Nat.reduceMul,Nat.reduceLeDiff,quietOp,blindOp,Int.reduceEq,Int.reduceLT,Int.reduceLE,Nat.reduceLT,tiA,tiXA, true_and]
      exact ⟨⟨hn1, hn2⟩, by omega, hV2, o1, up2, hsc, hsi, hc, hs, (d5.putRow 1 rfl).map fun B o => Ow.three o⟩
    have f1 : ((y : Int) == 1) = false := beq_eq_false_iff_ne.2 c1
    by_cases c2 : (y : Int) = 2
    · have f2 : ((y : Int) == 2) = true := beq_iff_eq.2 c2
      try simp (disch := first | omega | (simp only [L3] <;> omega)) only [Sall,evalOp,init,binA_s,binE,binI,unE,convE,okNil,builtE,gv,TD.isAgg,resV,↓reduceIte,Nat.reduceEqDiff,reduceCtorEq,Nat.reduceAdd,Nat.reduceMul,Nat.reduceLeDiff,quietOp,blindOp,Int.reduceEq,Int.reduceLT,Int.reduceLE,Nat.reduceLT,tiA,tiXA, f0, f1, f2]
      have g1 := d4.rowAt 1 rfl
      have hu5 := d4.capOne 0 rfl
      have hlu := (d4.capRs 0 rfl).rd.len
      refine draw_inS (fun j => j ≠ H1.next) [0, 1, 2, 3, 4, 5, 6, 7] (by kernel_rfl) (by kernel_rfl) (by kernel_rfl) ?_
      try simp (disch := first | omega | (simp only [L3] <;> omega)) only [Sall,evalOp,init,binA_s,binE,binI,unE,convE,okNil,builtE,gv,TD.isAgg,resV,↓reduceIte,Nat.reduceEqDiff,reduceCtorEq,Nat.reduceAdd,Nat.reduceMul,Nat.reduceLeDiff,quietOp,blindOp,Int.reduceEq,Int.reduceLT,Int.reduceLE,Nat.reduceLT,tiA,tiXA, awpIS_nil, awpIS_cons, stepIS_op, loadOk, g1, hu5, nri, builtE, hlu]
      refine (l01DrawOrder_c cv nb H1.next k H6 (by omega) hnb (d4.src hsi) (d4.code hc hsc)).mono ?_
      rintro w H8 ⟨y, B8, k8, o8, hp⟩
      rw [Int.toNat_natCast] at o8 hp
      have d7 := d4.call hsi k8 o8
      refine ⟨.inr (.inr (les_of k8 o8 d4.sc)), ?_⟩
      have hw := o8.one 0 rfl
      try simp (disch := first | omega | (simp only [L3] <;> omega)) only [Sall,evalOp,init,binA_s,binE,binI,unE,convE,okNil,builtE,gv,TD.isAgg,resV,↓reduceIte,Nat.reduceEqDiff,reduceCtorEq,Nat.reduceAdd,Nat.reduceMul,Nat.reduceLeDiff,quietOp,blindOp,Int.reduceEq,Int.reduceLT,Int.reduceLE,Nat.reduceLT,tiA,tiXA, awpIS_nil, awpIS_cons, stepIS_op, loadOk, hw, hu5, nri]
      have hyl := hp.len
      refine (ACalls.scz (l01Reordered_c n u k l w y H8 (d7.capRs 0 rfl).rd (by rw [hyl]; exact d7.rd 2 rfl) hp.rng (by omega) (by omega))).ex ?_
      rintro u' H9 ⟨⟨up9, fr9⟩, sc9⟩
      rw [hyl] at fr9
      have o9 := Ow.of_fr up9 sc9 fr9
      have d8 := (d7.calls o9).toCap 3 rfl
      refine ⟨.inr (.inr (LE.les (o9.up.le d7.sc))), ?_⟩
      have g1' := d8.rowAt 1 rfl
      have hu7 := o9.one 0 rfl
      try simp (disch := first | omega | (simp only [L3] <;> omega)) only [Sall,evalOp,init,binA_s,binE,binI,unE,convE,okNil,builtE,gv,TD.isAgg,resV,↓reduceIte,Nat.reduceEqDiff,reduceCtorEq,Nat.reduceAdd,Nat.reduceMul,Nat.reduceLeDiff,quietOp,blindOp,Int.reduceEq,Int.reduceLT,Int.reduceLE,Nat.reduceLT,tiA,tiXA, awpIS_nil, awpIS_cons, stepIS_op, loadOk, g1', hu7, nri]
      refine ⟨.inr (.inl (by kernel_rfl)), n, k, ri, u', reoL l y, H1, H2, ?_⟩
      try simp (disch := first | omega | (simp only [L3] <;> omega)) only [Sall,evalOp,init,binA_s,binE,binI,unE,convE,okNil,builtE,gv,TD.isAgg,resV,↓reduceIte,Nat.reduceEqDiff,reduceCtorEq,Nat.reduceAdd,Nat.reduceMul,Nat.reduceLeDiff,quietOp,blindOp,Int.reduceEq,Int.reduceLT,Int.reduceLE,Nat.reduceLT,tiA,tiXA, true_and]
      exact ⟨hn, by omega, reoVL hV, o1, up2, hsc, hsi, hc, hs, (d8.putRow 1 rfl).map fun B o => Ow.pick2 o 3 1 rfl rfl (by decide)⟩
    have f2 : ((y : Int) == 2) = false := beq_eq_false_iff_ne.2 c2
    try simp (disch := first | omega | (simp only [L3] <;> omega)) only [Sall,evalOp,init,binA_s,binE,binI,unE,convE,okNil,builtE,gv,TD.isAgg,resV,↓reduceIte,Nat.reduceEqDiff,reduceCtorEq,Nat.reduceAdd,Nat.reduceMul,Nat.reduceLeDiff,quietOp,blindOp,Int.reduceEq,Int.reduceLT,Int.reduceLE,Nat.reduceLT,tiA,tiXA, f0, f1, f2]
    refine ⟨n, k, ri, u, l, H1, H2, ?_⟩
    try simp (disch := first | omega | (simp only [L3] <;> omega)) only [Sall,evalOp,init,binA_s,binE,binI,unE,convE,okNil,builtE,gv,TD.isAgg,resV,↓reduceIte,Nat.reduceEqDiff,reduceCtorEq,Nat.reduceAdd,Nat.reduceMul,Nat.reduceLeDiff,quietOp,blindOp,Int.reduceEq,Int.reduceLT,Int.reduceLE,Nat.reduceLT,tiA,tiXA, true_and]
    exact ⟨hn, by omega, hV, o1, up2, hsc, hsi, hc, hs, d4⟩
  · rintro t H3 ⟨n, k, ri, u, l, H1, H2, h2, h3, h4, hn, hk, hV, o1, up2, hsc, hsi, hc, hs, d1⟩
    try simp (disch := first | omega | (simp only [L3] <;> omega)) only [Sall,evalOp,init,binA_s,binE,binI,unE,convE,okNil,builtE,gv,TD.isAgg,resV,↓reduceIte,Nat.reduceEqDiff,reduceCtorEq,Nat.reduceAdd,Nat.reduceMul,Nat.reduceLeDiff,quietOp,blindOp,Int.reduceEq,Int.reduceLT,Int.reduceLE,Nat.reduceLT,tiA,tiXA, h3]
    refine (nextD 16 d1 hsi hc hsc hnb (by omega)).ex ?_
    rintro y H4 ⟨hy, d2⟩
    have d2 : Dq cv nb H1.next H2 H4 [.cap 14 69 u k (ints l), .row ri ⟨26, true, [.int .i64 n, u]⟩] := d2
    refine Holds.mp ?_
    try simp (disch := first | omega | (simp only [L3] <;> omega)) only [Sall,evalOp,init,binA_s,binE,binI,unE,convE,okNil,builtE,gv,TD.isAgg,resV,↓reduceIte,Nat.reduceEqDiff,reduceCtorEq,Nat.reduceAdd,Nat.reduceMul,Nat.reduceLeDiff,quietOp,blindOp,Int.reduceEq,Int.reduceLT,Int.reduceLE,Nat.reduceLT,tiA,tiXA, true_and]
    refine condC_cut (fun t H' => ∃ (n k : Nat) (u : Value) (l : List Int), t 2 = .pointer (some ⟨H.next, 0, none⟩) ∧ t 3 = .pointer (some ⟨H1.next, 0, none⟩) ∧ t 4 = .pointer (some ⟨ri, 0, none⟩) ∧ (2 ≤ n ∧ n ≤ 14) ∧ k ≤ 40 ∧ VL n l ∧ Dq cv nb H1.next H2 H' [.cap 14 69 u k (ints l), .row ri ⟨26, true, [.int .i64 n, u]⟩]) (fun _ => ?_) (fun _ => ?_) ?_
    · refine ⟨n, k, u, l, ?_⟩
      try simp (disch := first | omega | (simp only [L3] <;> omega)) only [Sall,evalOp,init,binA_s,binE,binI,unE,convE,okNil,builtE,gv,TD.isAgg,resV,↓reduceIte,Nat.reduceEqDiff,reduceCtorEq,Nat.reduceAdd,Nat.reduceMul,Nat.reduceLeDiff,quietOp,blindOp,Int.reduceEq,Int.reduceLT,Int.reduceLE,Nat.reduceLT,tiA,tiXA, h2, h3, h4]
      exact ⟨hn, hk, hV, d2⟩
    · try simp (disch := first | omega | (simp only [L3] <;> omega)) only [Sall,evalOp,init,binA_s,binE,binI,unE,convE,okNil,builtE,gv,TD.isAgg,resV,↓reduceIte,Nat.reduceEqDiff,reduceCtorEq,Nat.reduceAdd,Nat.reduceMul,Nat.reduceLeDiff,quietOp,blindOp,Int.reduceEq,Int.reduceLT,Int.reduceLE,Nat.reduceLT,tiA,tiXA, h3]
      refine ACalls.ex4 (g := fun n _ u _ => .agg #[.int .i64 (n : Nat), u]) (l01Draw_c cv nb H1.next H4 hnb (d2.src hsi) (d2.code hc hsc)) ?_
      rintro n2 k2 u2 l2 H7 ⟨hn2, hk2, hV2, e2⟩
      have d5 := d2.bind hsi e2
      have g1 := d5.rowAt 1 rfl
      have hu2 := d5.capOne 2 rfl
      refine Holds.mp ?_
      try simp (disch := first | omega | (simp only [L3] <;> omega)) only [Sall,evalOp,init,binA_s,binE,binI,unE,convE,okNil,builtE,gv,TD.isAgg,resV,↓reduceIte,Nat.reduceEqDiff,reduceCtorEq,Nat.reduceAdd,Nat.reduceMul,Nat.reduceLeDiff,quietOp,blindOp,Int.reduceEq,Int.reduceLT,Int.reduceLE,Nat.reduceLT,tiA,tiXA, h2, h3, h4, g1, hu2]
      exact ⟨n2, k2, u2, l2, hn2, hk2, hV2, (d5.putRow 1 rfl).map fun B o => Ow.three o⟩
    rintro t H5 ⟨n, k, u, l, h2, h3, h4, hn, hk, hV, d3⟩
    have g1 := d3.rowAt 1 rfl
    have hu := d3.capOne 0 rfl
    try simp (disch := first | omega | (simp only [L3] <;> omega)) only [Sall,evalOp,init,binA_s,binE,binI,unE,convE,okNil,builtE,gv,TD.isAgg,resV,↓reduceIte,Nat.reduceEqDiff,reduceCtorEq,Nat.reduceAdd,Nat.reduceMul,Nat.reduceLeDiff,quietOp,blindOp,Int.reduceEq,Int.reduceLT,Int.reduceLE,Nat.reduceLT,tiA,tiXA, h3, h4, g1, hu]
    refine ACalls.ex4 (g := fun (q : Int) (_ : Nat) (u : Value) (_ : List Int) => .agg #[.int .i64 q, u]) (l01Bad_c cv nb H1.next n k u l H5 hn hk hV (d3.rsx hsi 0 rfl) hnb (d3.src hsi) (d3.code hc hsc)) ?_
    rintro q k' u' l' H6 ⟨hq, hk', hbad, L, d4, hor⟩
    have d5 := d3.bind hsi d4
    have hu' : u'.oneCell' = true := by
      rcases hor with ⟨e, _, _⟩ | h
      · rw [e]; exact hu
      · exact d4.capOne 0 h
    have b0 := (o1.rowAt 0 rfl)
    have g0 : H6.row H.next = some ⟨26, true, [.int .i64 0, .slice none 0 0]⟩ := by
      rw [d5.lowEq (by omega) (by omega), up2.row _ (by omega)]; exact b0.1
    refine Holds.mp ?_
    try simp (disch := first | omega | (simp only [L3] <;> omega)) only [Sall,evalOp,init,binA_s,binE,binI,unE,convE,okNil,builtE,gv,TD.isAgg,resV,↓reduceIte,Nat.reduceEqDiff,reduceCtorEq,Nat.reduceAdd,Nat.reduceMul,Nat.reduceLeDiff,quietOp,blindOp,Int.reduceEq,Int.reduceLT,Int.reduceLE,Nat.reduceLT,tiA,tiXA, h2, g0, hu']
    obtain ⟨Bs, nbs, os⟩ := d5.shift (i := H.next) (by omega) [.int .i64 q, u']
    have hle := d5.le
    obtain ⟨B3, H3, o3, hold⟩ := os.alone
    refine ⟨(q, u'), rfl, k', l', hq, hk', hbad, fun Hx hx => ?_, Ow.of_up ⟨by show H.next ≤ H6.next; omega, fun i hi => ?_⟩ (d5.sc.set _ _)⟩
    · have old : ∀ i r, H3.row i = some r → Hx.row i = some r := fun i r hr => by
        obtain ⟨h1, h2⟩ := hold i r hr
        exact hx i r (by omega) h2
      rcases hor with ⟨e1, e2, e3⟩ | h
      · have hh := ((o3.capRs 0 rfl).same old).rd
        rw [← e1, ← e2, ← e3] at hh
        exact hh
      · exact ((o3.capRs 2 (by rw [List.getElem?_append_right (by simp)]; exact h)).same old).rd
    · rw [AH.setCells_row, if_neg (by omega), d5.lowEq (by omega) (by omega), up2.row _ (by omega), o1.low _ hi]
end Go.Proofs.YtpienljnoaendaaGreat.A
end

section
set_option maxRecDepth 100000
set_option maxHeartbeats 2000000
namespace Go.Proofs.YtpienljnoaendaaGreat.A
open Go Go.Abs Go.RowKit
theorem drawBestOrder_c (cv : Value) (nb : Nat) (H : AH) (hnb : nb ≤ 4611686018427387904) (hc0 : CodeOk H cv nb) :
    ACalls Tryz.prog 66 [cv] H (DrawnB H) := by
  refine ACalls.wf (by kernel_rfl) fun hsc0 => acalls_of_awp [.cell 2 26] Tryz.func66 (by kernel_rfl) rfl rfl (Nat.le_of_ble_eq_true rfl) (by kernel_rfl) ?_
  have o1 := (Ow.refl hsc0).push ⟨26, true, [.int .i64 0, .slice none 0 0]⟩
  have hone := hc0.one
  try simp (disch := first | omega | (simp only [L3] <;> omega)) only [Sall,evalOp,init,binA_s,binE,binI,unE,convE,okNil,builtE,gv,TD.isAgg,resV,↓reduceIte,Nat.reduceEqDiff,reduceCtorEq,Nat.reduceAdd,Nat.reduceMul,Nat.reduceLeDiff,quietOp,blindOp,Int.reduceEq,Int.reduceLT,Int.reduceLE,Nat.reduceLT,tiA,tiXA, hone]
  generalize H.push ⟨26, true, [.int .i64 0, .slice none 0 0]⟩ = H1 at o1 ⊢
  have hc1 : CodeOk H1 cv nb := codeUp hc0 (o1.old hsc0)
  refine ACalls.ex (g := fun p : Int × Value => .agg #[.int .i64 p.1, p.2]) (l09Draw_c cv nb H1 hnb hc1) ?_
  rintro ⟨q, u⟩ H2 ⟨k, l, hq, hk, hb, hR, o2⟩
  dsimp only at hq hR
  have hu := (hR H2 fun i r _ h => h).one
  have b0 := o1.rowAt 0 rfl
  have g0 : H2.row H.next = some ⟨26, true, [.int .i64 0, .slice none 0 0]⟩ := by
    rw [o2.low _ b0.2.2]; exact b0.1
  have n2 := o2.next
  refine Holds.mp ?_
  try simp (disch := first | omega | (simp only [L3] <;> omega)) only [Sall,evalOp,init,binA_s,binE,binI,unE,convE,okNil,builtE,gv,TD.isAgg,resV,↓reduceIte,Nat.reduceEqDiff,reduceCtorEq,Nat.reduceAdd,Nat.reduceMul,Nat.reduceLeDiff,quietOp,blindOp,Int.reduceEq,Int.reduceLT,Int.reduceLE,Nat.reduceLT,tiA,tiXA, hu, g0]
  refine ⟨(q, u), rfl, k, l, hq, hk, hb, fun Hx hx => hR Hx fun i r hi hr => hx i r (by omega) (by rw [AH.setCells_row, if_neg (by omega)]; exact hr), Ow.of_up ⟨by show H.next ≤ H2.next; omega, fun i hi => ?_⟩ (o2.sc.set _ _)⟩
  rw [AH.setCells_row, if_neg (by omega), o2.low _ (by omega), o1.low _ hi]
theorem drawCarryMatrix_c (cv : Value) (nb : Nat) (H : AH) (hnb : nb ≤ 4611686018427387904) (hc0 : CodeOk H cv nb) :
    ACalls Tryz.prog 72 [cv] H (DrawnB H) := by
  refine ACalls.wf (by kernel_rfl) fun hsc0 => acalls_of_awp [.cell 2 26] Tryz.func72 (by kernel_rfl) rfl rfl (Nat.le_of_ble_eq_true rfl) (by kernel_rfl) ?_
  have o1 := (Ow.refl hsc0).push ⟨26, true, [.int .i64 0, .slice none 0 0]⟩
  have hone := hc0.one
  try simp (disch := first | omega | (simp only [L3] <;> omega)) only [Sall,evalOp,init,binA_s,binE,binI,unE,convE,okNil,builtE,gv,TD.isAgg,resV,↓reduceIte,Nat.reduceEqDiff,reduceCtorEq,Nat.reduceAdd,Nat.reduceMul,Nat.reduceLeDiff,quietOp,blindOp,Int.reduceEq,Int.reduceLT,Int.reduceLE,Nat.reduceLT,tiA,tiXA, hone]
  generalize H.push ⟨26, true, [.int .i64 0, .slice none 0 0]⟩ = H1 at o1 ⊢
  have hc1 : CodeOk H1 cv nb := codeUp hc0 (o1.old hsc0)
  refine ACalls.ex (g := fun p : Int × Value => .agg #[.int .i64 p.1, p.2]) (l09Draw_c cv nb H1 hnb hc1) ?_
  rintro ⟨q, u⟩ H2 ⟨k, l, hq, hk, hb, hR, o2⟩
  dsimp only at hq hR
  have hu := (hR H2 fun i r _ h => h).one
  have b0 := o1.rowAt 0 rfl
  have g0 : H2.row H.next = some ⟨26, true, [.int .i64 0, .slice none 0 0]⟩ := by
    rw [o2.low _ b0.2.2]; exact b0.1
  have n2 := o2.next
  refine Holds.mp ?_
  try simp (disch := first | omega | (simp only [L3] <;> omega)) only [Sall,evalOp,init,binA_s,binE,binI,unE,convE,okNil,builtE,gv,TD.isAgg,resV,↓reduceIte,Nat.reduceEqDiff,reduceCtorEq,Nat.reduceAdd,Nat.reduceMul,Nat.reduceLeDiff,quietOp,blindOp,Int.reduceEq,Int.reduceLT,Int.reduceLE,Nat.reduceLT,tiA,tiXA, hu, g0]
  refine ⟨(q, u), rfl, k, l, hq, hk, hb, fun Hx hx => hR Hx fun i r hi hr => hx i r (by omega) (by rw [AH.setCells_row, if_neg (by omega)]; exact hr), Ow.of_up ⟨by show H.next ≤ H2.next; omega, fun i hi => ?_⟩ (o2.sc.set _ _)⟩
  rw [AH.setCells_row, if_neg (by omega), o2.low _ (by omega), o1.low _ hi]
theorem drawFirstDigitOrder_c (cv : Value) (nb : Nat) (H : AH) (hnb : nb ≤ 4611686018427387904) (hc0 : CodeOk H cv nb) :
    ACalls Tryz.prog 80 [cv] H (fun r H' => ∃ n : Nat, r = .int .i64 n ∧ 1 ≤ n ∧ n ≤ 16 ∧ Ow H H' []) := by
  refine ACalls.wf (by kernel_rfl) fun hsc0 => acalls_of_awp [.tmp 2] Tryz.func80 (by kernel_rfl) rfl rfl (Nat.le_of_ble_eq_true rfl) (by kernel_rfl) ?_
  have hone := hc0.one
  have hb : ∀ (t : T) (H : AH), evalOp Tryz.prog t H (.buildSlice 33 6 #[(0, .const (.int .i64 2)), (1, .const (.int .i64 4)), (2, .const (.int .i64 8)), (3, .const (.int .i64 8)), (4, .const (.int .i64 1)), (5, .const (.int .i64 16))]) = .need (6 ≤ 16777216 ∧ 6 * 1 ≤ 16777216) (.val (.slice (some ⟨H.next, 0, some 1⟩) 6 6) (H.push ⟨2, true, ints [2, 4, 8, 8, 1, 16]⟩)) := fun t H => by kernel_rfl
  generalize (Op.buildSlice 33 6 #[(0, .const (.int .i64 2)), (1, .const (.int .i64 4)), (2, .const (.int .i64 8)), (3, .const (.int .i64 8)), (4, .const (.int .i64 1)), (5, .const (.int .i64 16))]) = bop at hb ⊢
  simp (config := {maxSteps := 3000000}) (disch := first | omega | (simp only [L3] <;> omega)) only [Sall,evalOp,init,binA_s,binE,binI,unE,convE,okNil,builtE,gv,TD.isAgg,resV,↓reduceIte,Nat.reduceEqDiff,reduceCtorEq,Nat.reduceAdd,Nat.reduceMul,Nat.reduceLeDiff,quietOp,blindOp,Int.reduceEq,Int.reduceLT,Int.reduceLE,Nat.reduceLT,tiA,tiXA, ↓hb, hone]
  refine (l01From_c cv nb H hnb hc0).fin ?_
  rintro H1 ⟨up1, sc1, n1, s1⟩
  have hc := CodeX.of hc0 hsc0 up1
  have d0 := Dq.start s1 sc1
  refine Holds.mp ?_
  simp (config := {maxSteps := 3000000}) (disch := first | omega | (simp only [L3] <;> omega)) only [Sall,evalOp,init,binA_s,binE,binI,unE,convE,okNil,builtE,gv,TD.isAgg,resV,↓reduceIte,Nat.reduceEqDiff,reduceCtorEq,Nat.reduceAdd,Nat.reduceMul,Nat.reduceLeDiff,quietOp,blindOp,Int.reduceEq,Int.reduceLT,Int.reduceLE,Nat.reduceLT,tiA,tiXA, ↓hb]
  refine (pickL [2, 4, 8, 8, 1, 16] 6 rfl (by omega) (by omega) d0 n1 hc sc1 hnb).ex ?_
  rintro x H3 ⟨hx, d1⟩
  have hx2 : 1 ≤ x ∧ x ≤ 16 := by
    simp only [List.mem_cons, List.not_mem_nil, or_false] at hx
    omega
  obtain ⟨n, rfl⟩ : ∃ n : Nat, x = n := ⟨x.toNat, by omega⟩
  refine Holds.mp ?_
  try simp (disch := first | omega | (simp only [L3] <;> omega)) only [Sall,evalOp,init,binA_s,binE,binI,unE,convE,okNil,builtE,gv,TD.isAgg,resV,↓reduceIte,Nat.reduceEqDiff,reduceCtorEq,Nat.reduceAdd,Nat.reduceMul,Nat.reduceLeDiff,quietOp,blindOp,Int.reduceEq,Int.reduceLT,Int.reduceLE,Nat.reduceLT,tiA,tiXA, true_and]
  exact ⟨n, rfl, by omega, by omega, Dr.fin ⟨d1.ex⟩ up1⟩
theorem drawDigitRobin_c (cv : Value) (nb : Nat) (H : AH) (hnb : nb ≤ 4611686018427387904) (hc0 : CodeOk H cv nb) :
    ACalls Tryz.prog 77 [cv] H (fun r H' => ∃ (n : Nat) (w : Value) (y : List Int), r = .tuple #[.int .i64 n, w] ∧ n ≤ 16 ∧ y.length ≤ 7 ∧ (∀ x ∈ y, 0 ≤ x ∧ x ≤ 8) ∧ Ow H H' [.sl 1 2 w y.length (ints y)]) := by
  refine ACalls.wf (by kernel_rfl) fun hsc0 => acalls_of_awp [.tmp 2, .tmp 3] Tryz.func77 (by kernel_rfl) rfl rfl (Nat.le_of_ble_eq_true rfl) (by kernel_rfl) ?_
  have hone := hc0.one
  have zz4 : zeros 4 [.int .i64 0] = [.int .i64 0, .int .i64 0, .int .i64 0, .int .i64 0] := rfl
  simp (config := {maxSteps := 3000000}) (disch := first | omega | (simp only [L3] <;> omega)) only [Sall,evalOp,init,binA_s,binE,binI,unE,convE,okNil,builtE,gv,TD.isAgg,resV,↓reduceIte,Nat.reduceEqDiff,reduceCtorEq,Nat.reduceAdd,Nat.reduceMul,Nat.reduceLeDiff,quietOp,blindOp,Int.reduceEq,Int.reduceLT,Int.reduceLE,Nat.reduceLT,tiA,tiXA, hone, zz4]
  refine (l01From_c cv nb H hnb hc0).fin ?_
  rintro H1 ⟨up1, sc1, n1, s1⟩
  have hc := CodeX.of hc0 hsc0 up1
  have d0 := Dq.start s1 sc1
  refine Holds.mp ?_
  simp (config := {maxSteps := 3000000}) (disch := first | omega | (simp only [L3] <;> omega)) only [Sall,evalOp,init,binA_s,binE,binI,unE,convE,okNil,builtE,gv,TD.isAgg,resV,↓reduceIte,Nat.reduceEqDiff,reduceCtorEq,Nat.reduceAdd,Nat.reduceMul,Nat.reduceLeDiff,quietOp,blindOp,Int.reduceEq,Int.reduceLT,Int.reduceLE,Nat.reduceLT,tiA,tiXA, zz4]
  refine (pickL [2, 4, 8, 8] 4 rfl (by omega) (by omega) d0 n1 hc sc1 hnb).ex ?_
  rintro x H3 ⟨hx, d1⟩
  have hx2 : x = 2 ∨ x = 4 ∨ x = 8 := by
    simp only [List.mem_cons, List.not_mem_nil, or_false] at hx
    omega
  obtain ⟨m, rfl⟩ : ∃ m : Nat, x = (m + 1 : Nat) := ⟨(x - 1).toNat, by omega⟩
  have hm : 1 ≤ m ∧ m ≤ 7 := by omega
  have em : ((m + 1 : Nat) : Int) - 1 = m := by omega
  refine Holds.mp ?_
  try simp (disch := first | omega | (simp only [L3] <;> omega)) only [Sall,evalOp,init,binA_s,binE,binI,unE,convE,okNil,builtE,gv,TD.isAgg,resV,↓reduceIte,Nat.reduceEqDiff,reduceCtorEq,Nat.reduceAdd,Nat.reduceMul,Nat.reduceLeDiff,quietOp,blindOp,Int.reduceEq,Int.reduceLT,Int.reduceLE,Nat.reduceLT,tiA,tiXA, w64, em]
  refine (l01DrawOrder_c cv nb H.next m H3 (by omega) hnb (d1.src n1) (d1.code hc sc1)).mono ?_
  rintro w H7 ⟨y0, B7, k7, o7, hp⟩
  rw [Int.toNat_natCast] at o7 hp
  have d5 := d1.call n1 k7 o7
  obtain ⟨wi, _, _, rfl, _⟩ := o7.get 0 rfl (by omega)
  refine Holds.mp ?_
  try simp (disch := first | omega | (simp only [L3] <;> omega)) only [Sall,evalOp,init,binA_s,binE,binI,unE,convE,okNil,builtE,gv,TD.isAgg,resV,↓reduceIte,Nat.reduceEqDiff,reduceCtorEq,Nat.reduceAdd,Nat.reduceMul,Nat.reduceLeDiff,quietOp,blindOp,Int.reduceEq,Int.reduceLT,Int.reduceLE,Nat.reduceLT,tiA,tiXA, true_and]
  refine awp_loop (fun z t H' => ∃ (c : Nat) (y : List Int), z = m - c ∧ c ≤ m ∧ t 7 = .int .i64 c ∧ t 6 = .slice (some ⟨wi, 0, some 1⟩) m m ∧ t 4 = .pointer (some ⟨H.next, 0, none⟩) ∧ t 5 = .int .i64 (m + 1 : Nat) ∧ UpTo m c y ∧
    Dq cv nb H.next H1 H' [.sl 1 2 (.slice (some ⟨wi, 0, some 1⟩) m m) m (ints y)]) m ?_ ?_
  · refine ⟨0, y0, by omega, by omega, ?_⟩
    try simp (disch := first | omega | (simp only [L3] <;> omega)) only [Sall,evalOp,init,binA_s,binE,binI,unE,convE,okNil,builtE,gv,TD.isAgg,resV,↓reduceIte,Nat.reduceEqDiff,reduceCtorEq,Nat.reduceAdd,Nat.reduceMul,Nat.reduceLeDiff,quietOp,blindOp,Int.reduceEq,Int.reduceLT,Int.reduceLE,Nat.reduceLT,tiA,tiXA, Int.natCast_zero]
    exact ⟨UpTo.zero hp, d5⟩
  · rintro z t H' ⟨c, y, hz, hcm, h7, h6, h4, h5, hU, d6⟩
    try simp (disch := first | omega | (simp only [L3] <;> omega)) only [Sall,evalOp,init,binA_s,binE,binI,unE,convE,okNil,builtE,gv,TD.isAgg,resV,↓reduceIte,Nat.reduceEqDiff,reduceCtorEq,Nat.reduceAdd,Nat.reduceMul,Nat.reduceLeDiff,quietOp,blindOp,Int.reduceEq,Int.reduceLT,Int.reduceLE,Nat.reduceLT,tiA,tiXA, h7, h6, builtE]
    have hyl := hU.len
    obtain ⟨B, hB, o6⟩ := id d6.ex
    have rw6 := (o6.getV 0 rfl).2.2
    refine condC_dec (fun hh => ?_) (fun hh => ?_)
    · have hcm' : c < m := by omega
      have k1 := ints_get? y c (by omega)
      have hb1 := hU.hi c (by omega) hcm'
      try simp (disch := first | omega | (simp only [L3] <;> omega)) only [Sall,evalOp,init,binA_s,binE,binI,unE,convE,okNil,builtE,gv,TD.isAgg,resV,↓reduceIte,Nat.reduceEqDiff,reduceCtorEq,Nat.reduceAdd,Nat.reduceMul,Nat.reduceLeDiff,quietOp,blindOp,Int.reduceEq,Int.reduceLT,Int.reduceLE,Nat.reduceLT,tiA,tiXA, h7, h6, rw6, k1, hyl, ints_set, w64]
      (repeat refine And.intro (by omega) ?_)
      try simp (disch := first | omega | (simp only [L3] <;> omega)) only [Sall,evalOp,init,binA_s,binE,binI,unE,convE,okNil,builtE,gv,TD.isAgg,resV,↓reduceIte,Nat.reduceEqDiff,reduceCtorEq,Nat.reduceAdd,Nat.reduceMul,Nat.reduceLeDiff,quietOp,blindOp,Int.reduceEq,Int.reduceLT,Int.reduceLE,Nat.reduceLT,tiA,tiXA, h7, h6, h4, h5, rw6, k1, hyl, ints_set, w64]
      exact ⟨m - (c + 1), by omega, c + 1, _, rfl, by omega, rfl, hU.succ hcm', d6.map fun B o => o.put 0 rfl (by rw [ints_length, ints_length, List.length_set])⟩
    · obtain rfl : c = m := by omega
      have hr := hU.rng
      try simp (disch := first | omega | (simp only [L3] <;> omega)) only [Sall,evalOp,init,binA_s,binE,binI,unE,convE,okNil,builtE,gv,TD.isAgg,resV,↓reduceIte,Nat.reduceEqDiff,reduceCtorEq,Nat.reduceAdd,Nat.reduceMul,Nat.reduceLeDiff,quietOp,blindOp,Int.reduceEq,Int.reduceLT,Int.reduceLE,Nat.reduceLT,tiA,tiXA, h4]
      refine (nextD 12 d6 n1 hc sc1 hnb (by omega)).ex ?_
      rintro z2 H8 ⟨hz2, d7⟩
      refine Holds.mp ?_
      by_cases c0 : (z2 : Int) = 0
      · have f0 : ((z2 : Int) == 0) = true := beq_iff_eq.2 c0
        have zz3 : zeros 3 [.int .i64 0] = [.int .i64 0, .int .i64 0, .int .i64 0] := rfl
        simp (config := {maxSteps := 3000000}) (disch := first | omega | (simp only [L3] <;> omega)) only [Sall,evalOp,init,binA_s,binE,binI,unE,convE,okNil,builtE,gv,TD.isAgg,resV,↓reduceIte,Nat.reduceEqDiff,reduceCtorEq,Nat.reduceAdd,Nat.reduceMul,Nat.reduceLeDiff,quietOp,blindOp,Int.reduceEq,Int.reduceLT,Int.reduceLE,Nat.reduceLT,tiA,tiXA, f0, zz3, h4]
        refine (pickL [3, 16, 0] 3 rfl (by omega) (by omega) d7 n1 hc sc1 hnb).ex ?_
        rintro x H9 ⟨hx, d8⟩
        obtain ⟨n2, rfl⟩ : ∃ n : Nat, x = n := ⟨x.toNat, by
          simp only [List.mem_cons, List.not_mem_nil, or_false] at hx
          omega⟩
        have hn2 : n2 ≤ 16 := by
          simp only [List.mem_cons, List.not_mem_nil, or_false] at hx
          omega
        refine Holds.mp ?_
        try simp (disch := first | omega | (simp only [L3] <;> omega)) only [Sall,evalOp,init,binA_s,binE,binI,unE,convE,okNil,builtE,gv,TD.isAgg,resV,↓reduceIte,Nat.reduceEqDiff,reduceCtorEq,Nat.reduceAdd,Nat.reduceMul,Nat.reduceLeDiff,quietOp,blindOp,Int.reduceEq,Int.reduceLT,Int.reduceLE,Nat.reduceLT,tiA,tiXA, h6]
        refine ⟨n2, _, y, rfl, hn2, by omega, fun x hx => by have := hr x hx; omega, ?_⟩
        rw [hyl]
        exact Dr.fin ⟨d8.ex⟩ up1
      have f0 : ((z2 : Int) == 0) = false := beq_eq_false_iff_ne.2 c0
      by_cases c1 : (z2 : Int) = 1
      · have f1 : ((z2 : Int) == 1) = true := beq_iff_eq.2 c1
        have zz3 : zeros 3 [.int .i64 0] = [.int .i64 0, .int .i64 0, .int .i64 0] := rfl
        simp (config := {maxSteps := 3000000}) (disch := first | omega | (simp only [L3] <;> omega)) only [Sall,evalOp,init,binA_s,binE,binI,unE,convE,okNil,builtE,gv,TD.isAgg,resV,↓reduceIte,Nat.reduceEqDiff,reduceCtorEq,Nat.reduceAdd,Nat.reduceMul,Nat.reduceLeDiff,quietOp,blindOp,Int.reduceEq,Int.reduceLT,Int.reduceLE,Nat.reduceLT,tiA,tiXA, f0, f1, zz3, h4, h5, h6]
        refine (pickL [0, ((c + 1 : Nat) : Int), 1] 3 rfl (by omega) (by omega) d7 n1 hc sc1 hnb).ex ?_
        rintro x H9 ⟨hx, d8⟩
        have hx8 : 0 ≤ x ∧ x ≤ 8 := by
          simp only [List.mem_cons, List.not_mem_nil, or_false] at hx
          omega
        obtain ⟨B2, hB2, o8⟩ := id d8.ex
        have rw8 := (o8.getV 0 rfl).2.2
        refine Holds.mp ?_
        try simp (disch := first | omega | (simp only [L3] <;> omega)) only [Sall,evalOp,init,binA_s,binE,binI,unE,convE,okNil,builtE,gv,TD.isAgg,resV,↓reduceIte,Nat.reduceEqDiff,reduceCtorEq,Nat.reduceAdd,Nat.reduceMul,Nat.reduceLeDiff,quietOp,blindOp,Int.reduceEq,Int.reduceLT,Int.reduceLE,Nat.reduceLT,tiA,tiXA, h6, rw8, hyl, ints_set]
        (repeat refine And.intro (by omega) ?_)
        try simp (disch := first | omega | (simp only [L3] <;> omega)) only [Sall,evalOp,init,binA_s,binE,binI,unE,convE,okNil,builtE,gv,TD.isAgg,resV,↓reduceIte,Nat.reduceEqDiff,reduceCtorEq,Nat.reduceAdd,Nat.reduceMul,Nat.reduceLeDiff,quietOp,blindOp,Int.reduceEq,Int.reduceLT,Int.reduceLE,Nat.reduceLT,tiA,tiXA, h5, h6, rw8, hyl, ints_set]
        refine ⟨c + 1, _, y.set 0 x, rfl, by omega, by rw [List.length_set]; omega, fun z hz => ?_, ?_⟩
        · rcases List.mem_or_eq_of_mem_set hz with h | h
          · have := hr z h; omega
          · omega
        · rw [List.length_set, hyl]
          have d9 := d8.map fun B o => o.put 0 rfl (vs' := ints (y.set 0 x)) (by rw [ints_length, ints_length, List.length_set])
          exact Dr.fin ⟨d9.ex⟩ up1
      have f1 : ((z2 : Int) == 1) = false := beq_eq_false_iff_ne.2 c1
      try simp (disch := first | omega | (simp only [L3] <;> omega)) only [Sall,evalOp,init,binA_s,binE,binI,unE,convE,okNil,builtE,gv,TD.isAgg,resV,↓reduceIte,Nat.reduceEqDiff,reduceCtorEq,Nat.reduceAdd,Nat.reduceMul,Nat.reduceLeDiff,quietOp,blindOp,Int.reduceEq,Int.reduceLT,Int.reduceLE,Nat.reduceLT,tiA,tiXA, f0, f1, h5, h6]
      refine ⟨c + 1, _, y, rfl, by omega, by omega, fun x hx => by have := hr x hx; omega, ?_⟩
      rw [hyl]
      exact Dr.fin ⟨d7.ex⟩ up1
end Go.Proofs.YtpienljnoaendaaGreat.A
end

section
set_option maxRecDepth 100000
set_option maxHeartbeats 2000000
namespace Go.Proofs.YtpienljnoaendaaGreat.A
open Go Go.Abs Go.RowKit
theorem take_sum (l : List Int) (j : Nat) (hj : j < l.length) : (l.take (j + 1)).sum = (l.take j).sum + l.getD j 0 := by
  have e : l.take (j + 1) = l.take j ++ [l[j]] := by rw [List.take_add_one, List.getElem?_eq_getElem hj]; rfl
  have e2 : l.getD j 0 = l[j] := by rw [List.getD_eq_getElem?_getD, List.getElem?_eq_getElem hj]; rfl
  rw [e, e2, List.sum_append, List.sum_cons, List.sum_nil, Int.add_zero]
theorem sum_bound {l : List Int} (hb : ∀ x, x ∈ l → 0 ≤ x ∧ x ≤ 1000000) : ∀ j, j ≤ l.length → 0 ≤ (l.take j).sum ∧ (l.take j).sum ≤ (j : Int) * 1000000
  | 0, _ => by simp
  | j + 1, h => by
    have ih := sum_bound hb j (by omega)
    rw [take_sum l j (by omega)]
    have h2 : l.getD j 0 ∈ l := by
      rw [List.getD_eq_getElem?_getD, List.getElem?_eq_getElem (by omega)]
      exact List.getElem_mem _
    have := hb _ h2
    omega
theorem sum_c (v : Value) (n : Nat) (l : List Int) (H : AH) (hn : n ≤ 1000) (hv : Rd 1 H v n l) (hb : ∀ x, x ∈ l → 0 ≤ x ∧ x ≤ 1000000) : ACalls Tryz.prog 14 [v] H (is (.int .i64 l.sum) H) := by
  refine acalls_of_awp [.tmp 2] Tryz.func14 (by kernel_rfl) rfl rfl (Nat.le_of_ble_eq_true rfl) (by kernel_rfl) ?_
  have hln := hv.len
  have hl := hv.lenK1
  try simp (disch := first | omega | (simp only [L3] <;> omega)) only [Sall,evalOp,init,binA_s,binE,binI,unE,convE,okNil,builtE,gv,TD.isAgg,resV,↓reduceIte,Nat.reduceEqDiff,reduceCtorEq,Nat.reduceAdd,Nat.reduceMul,Nat.reduceLeDiff,quietOp,blindOp,Int.reduceEq,Int.reduceLT,Int.reduceLE,Nat.reduceLT,tiA,tiXA, true_and]
  refine awp_loop (fun z t H' => H' = H ∧ ∃ j : Nat, z = n - j ∧ j ≤ n ∧ t 4 = .int .i64 j ∧ t 3 = .int .i64 (l.take j).sum ∧ t 0 = v) n ?_ ?_
  · refine ⟨rfl, 0, by omega, by omega, ?_⟩
    try simp (disch := first | omega | (simp only [L3] <;> omega)) only [Sall,evalOp,init,binA_s,binE,binI,unE,convE,okNil,builtE,gv,TD.isAgg,resV,↓reduceIte,Nat.reduceEqDiff,reduceCtorEq,Nat.reduceAdd,Nat.reduceMul,Nat.reduceLeDiff,quietOp,blindOp,Int.reduceEq,Int.reduceLT,Int.reduceLE,Nat.reduceLT,tiA,tiXA, Int.natCast_zero, List.take_zero, List.sum_nil]
  · rintro z t H' ⟨rfl, j, hz, hj, h4, h3, h0⟩
    try simp (disch := first | omega | (simp only [L3] <;> omega)) only [Sall,evalOp,init,binA_s,binE,binI,unE,convE,okNil,builtE,gv,TD.isAgg,resV,↓reduceIte,Nat.reduceEqDiff,reduceCtorEq,Nat.reduceAdd,Nat.reduceMul,Nat.reduceLeDiff,quietOp,blindOp,Int.reduceEq,Int.reduceLT,Int.reduceLE,Nat.reduceLT,tiA,tiXA, h4, h0, hln, builtE]
    refine condC_dec (fun hh => ?_) (fun hh => ?_)
    · obtain ⟨ai, ao, au, ac, ar, rfl, a1, a2, a3, a4⟩ := hv.get (by omega)
      have a5 := a3 j (by omega)
      have hs := sum_bound hb j (by omega)
      have hs1 := sum_bound hb (j + 1) (by omega)
      have hst := take_sum l j (by omega)
      have ew : IntKind.i64.wrap ((l.take j).sum + l.getD j 0) = (l.take (j + 1)).sum := by
        rw [← hst]; exact w64 (by omega)
      try simp (disch := first | omega | (simp only [L3] <;> omega)) only [Sall,evalOp,init,binA_s,binE,binI,unE,convE,okNil,builtE,gv,TD.isAgg,resV,↓reduceIte,Nat.reduceEqDiff,reduceCtorEq,Nat.reduceAdd,Nat.reduceMul,Nat.reduceLeDiff,quietOp,blindOp,Int.reduceEq,Int.reduceLT,Int.reduceLE,Nat.reduceLT,tiA,tiXA, h4, h3, h0, a1, a5, ew, w64]
      (repeat refine And.intro (by omega) ?_)
      try simp (disch := first | omega | (simp only [L3] <;> omega)) only [Sall,evalOp,init,binA_s,binE,binI,unE,convE,okNil,builtE,gv,TD.isAgg,resV,↓reduceIte,Nat.reduceEqDiff,reduceCtorEq,Nat.reduceAdd,Nat.reduceMul,Nat.reduceLeDiff,quietOp,blindOp,Int.reduceEq,Int.reduceLT,Int.reduceLE,Nat.reduceLT,tiA,tiXA, h4, h3, h0, a1, a5, ew, w64]
      exact ⟨n - (j + 1), by omega, j + 1, rfl, by omega, rfl, rfl⟩
    · have e : l.take j = l := List.take_of_length_le (by omega)
      rw [e] at h3
      try simp (disch := first | omega | (simp only [L3] <;> omega)) only [Sall,evalOp,init,binA_s,binE,binI,unE,convE,okNil,builtE,gv,TD.isAgg,resV,↓reduceIte,Nat.reduceEqDiff,reduceCtorEq,Nat.reduceAdd,Nat.reduceMul,Nat.reduceLeDiff,quietOp,blindOp,Int.reduceEq,Int.reduceLT,Int.reduceLE,Nat.reduceLT,tiA,tiXA, h3]
      exact ⟨rfl, rfl⟩
end Go.Proofs.YtpienljnoaendaaGreat.A
end

section
set_option maxRecDepth 100000
set_option maxHeartbeats 2000000
namespace Go.Proofs.YtpienljnoaendaaGreat.A
open Go Go.Abs Go.RowKit
theorem schedules5_c (q : Int) (u w : Value) (k : Nat) (l : List Int) (H : AH) (hk : k ≤ 4294967296) (ha : Rd 14 H u k l) (hb : Rd 14 H w k l) :
    ACalls Tryz.prog 23 [.agg #[.int .i64 q, u], .agg #[.int .i64 q, w]] H (is (.bool true) H) := by
  refine acalls_up rfl (ACalls.wf (by kernel_rfl) fun hs => acalls_of_awp [.tmp 4] Tryz.func23 (by kernel_rfl) rfl rfl (Nat.le_of_ble_eq_true rfl) (by kernel_rfl) ?_)
  have h1 := ha.one
  have h2 := hb.one
  have la := ha.len
  have lb := hb.len
  have up : Up H.next H ((H.push ⟨26, true, [.int .i64 q, u]⟩).push ⟨26, true, [.int .i64 q, w]⟩) := ((Up.refl _ H).push (Nat.le_refl _) _).push (Nat.le_succ _) _
  have g0 : ((H.push ⟨26, true, [.int .i64 q, u]⟩).push ⟨26, true, [.int .i64 q, w]⟩).row H.next = some ⟨26, true, [.int .i64 q, u]⟩ := by
    rw [AH.push_row, AH.push_next, if_neg (by omega), AH.push_row, if_pos rfl]
  have g1 : ((H.push ⟨26, true, [.int .i64 q, u]⟩).push ⟨26, true, [.int .i64 q, w]⟩).row (H.next + 1) = some ⟨26, true, [.int .i64 q, w]⟩ := by
    rw [AH.push_row, AH.push_next, if_pos rfl]
  try simp (disch := first | omega | (simp only [L3] <;> omega)) only [Sall,evalOp,init,binA_s,binE,binI,unE,convE,okNil,builtE,gv,TD.isAgg,resV,↓reduceIte,Nat.reduceEqDiff,reduceCtorEq,Nat.reduceAdd,Nat.reduceMul,Nat.reduceLeDiff,quietOp,blindOp,Int.reduceEq,Int.reduceLT,Int.reduceLE,Nat.reduceLT,tiA,tiXA, h1, h2]
  generalize (H.push ⟨26, true, [.int .i64 q, u]⟩).push ⟨26, true, [.int .i64 q, w]⟩ = H1 at up g0 g1 ⊢
  have ha1 := ha.same (up.le hs).row
  have hb1 := hb.same (up.le hs).row
  try simp (disch := first | omega | (simp only [L3] <;> omega)) only [Sall,evalOp,init,binA_s,binE,binI,unE,convE,okNil,builtE,gv,TD.isAgg,resV,↓reduceIte,Nat.reduceEqDiff,reduceCtorEq,Nat.reduceAdd,Nat.reduceMul,Nat.reduceLeDiff,quietOp,blindOp,Int.reduceEq,Int.reduceLT,Int.reduceLE,Nat.reduceLT,tiA,tiXA, g0, g1, h1, h2, la, lb, builtE, bne_self_eq_false]
  refine awp_loop (fun z t Hx => H1 = Hx ∧ ∃ i : Nat, z = k - i ∧ i ≤ k ∧ t 5 = .int .i64 i ∧ t 2 = .pointer (some ⟨H.next, 0, none⟩) ∧ t 3 = .pointer (some ⟨H.next + 1, 0, none⟩)) k ?_ ?_
  · refine ⟨rfl, 0, by omega, by omega, ?_⟩
    try simp (disch := first | omega | (simp only [L3] <;> omega)) only [Sall,evalOp,init,binA_s,binE,binI,unE,convE,okNil,builtE,gv,TD.isAgg,resV,↓reduceIte,Nat.reduceEqDiff,reduceCtorEq,Nat.reduceAdd,Nat.reduceMul,Nat.reduceLeDiff,quietOp,blindOp,Int.reduceEq,Int.reduceLT,Int.reduceLE,Nat.reduceLT,tiA,tiXA, Int.natCast_zero]
  · rintro z t Hx ⟨rfl, i, hz, hi, h5, h2', h3⟩
    try simp (disch := first | omega | (simp only [L3] <;> omega)) only [Sall,evalOp,init,binA_s,binE,binI,unE,convE,okNil,builtE,gv,TD.isAgg,resV,↓reduceIte,Nat.reduceEqDiff,reduceCtorEq,Nat.reduceAdd,Nat.reduceMul,Nat.reduceLeDiff,quietOp,blindOp,Int.reduceEq,Int.reduceLT,Int.reduceLE,Nat.reduceLT,tiA,tiXA, h5, h2', g0, h1, builtE, la]
    refine condC_dec (fun hh => ?_) (fun hh => ?_)
    · obtain ⟨ci, co, cu, cc, cr, ec, c1, c2, c3, c4⟩ := ha1.get (show 0 < k by omega)
      obtain ⟨di, dd, du, dc, dr, ed, d1, d2, d3, d4⟩ := hb1.get (show 0 < k by omega)
      have c5 := c4 (i * 14) 14 (by omega)
      have d5 := d4 (i * 14) 14 (by omega)
      have hr14 : ((l.drop (i * 14)).take 14).length = 14 := rnd_length l i k ha.1 (by omega)
      have lg : co + i * 14 + 14 ≤ cr.cells.length := by omega
      have lg2 : dd + i * 14 + 14 ≤ dr.cells.length := by omega
      obtain ⟨r, er⟩ : ∃ r, r = (l.drop (i * 14)).take 14 := ⟨_, rfl⟩
      rw [← er] at hr14 c5 d5
      have ag : aggI (ints r) = r := by
        unfold aggI ints
        rw [List.map_map]
        exact (List.map_congr_left fun x _ => rfl).trans (List.map_id r)
      try simp (disch := first | omega | (simp only [L3] <;> omega)) only [Sall,evalOp,init,binA_s,binE,binI,unE,convE,okNil,builtE,gv,TD.isAgg,resV,↓reduceIte,Nat.reduceEqDiff,reduceCtorEq,Nat.reduceAdd,Nat.reduceMul,Nat.reduceLeDiff,quietOp,blindOp,Int.reduceEq,Int.reduceLT,Int.reduceLE,Nat.reduceLT,tiA,tiXA, true_and]
      refine draw_id (by kernel_rfl) (by kernel_rfl) ?_
      try simp (disch := first | omega | (simp only [L3] <;> omega)) only [Sall,evalOp,init,binA_s,binE,binI,unE,convE,okNil,builtE,gv,TD.isAgg,resV,↓reduceIte,Nat.reduceEqDiff,reduceCtorEq,Nat.reduceAdd,Nat.reduceMul,Nat.reduceLeDiff,quietOp,blindOp,Int.reduceEq,Int.reduceLT,Int.reduceLE,Nat.reduceLT,tiA,tiXA, h5, h2', h3, g0, g1, ec, ed, c1, d1, c5, d5, lg, lg2, hr14, arrE, ag, beq_self_eq_true, w64]
      exact ⟨⟨by omega, by omega⟩, ⟨by omega, by omega⟩, ⟨by kernel_rfl, rfl⟩, k - (i + 1), by omega, i + 1, rfl, by omega, by omega⟩
    · try simp (disch := first | omega | (simp only [L3] <;> omega)) only [Sall,evalOp,init,binA_s,binE,binI,unE,convE,okNil,builtE,gv,TD.isAgg,resV,↓reduceIte,Nat.reduceEqDiff,reduceCtorEq,Nat.reduceAdd,Nat.reduceMul,Nat.reduceLeDiff,quietOp,blindOp,Int.reduceEq,Int.reduceLT,Int.reduceLE,Nat.reduceLT,tiA,tiXA, true_and]
      exact up
end Go.Proofs.YtpienljnoaendaaGreat.A
end

section
namespace Go.Abs
def dwnL (y : List Int) : List Int := y.map fun x => x - 1
theorem dwnL_length (y : List Int) : (dwnL y).length = y.length := by simp [dwnL]
theorem dwnL_snoc (y : List Int) (i : Nat) (hi : i < y.length) : dwnL (y.take (i + 1)) = dwnL (y.take i) ++ [y.getD i 0 - 1] := by
  rw [take_snoc y 0 i hi]; simp [dwnL]
theorem dwnL_seq (m : Nat) : dwnL (seqL 1 m) = seqL 0 m := by
  unfold dwnL seqL
  rw [List.map_map]
  apply List.map_congr_left
  intro a _
  show (1 + (a : Int)) - 1 = 0 + (a : Int)
  omega
theorem upL_dwnL (y : List Int) : (dwnL y).map (fun x => x + 1) = y := by
  unfold dwnL
  rw [List.map_map]
  conv => rhs; rw [← List.map_id y]
  apply List.map_congr_left
  intro a _
  show a - 1 + 1 = a
  omega
theorem upL_seq (m : Nat) : (seqL 0 m).map (fun x => x + 1) = seqL 1 m := by
  rw [← dwnL_seq, upL_dwnL]
theorem perm_dwn (m : Nat) (y : List Int) : y.Perm (seqL 1 m) ↔ (dwnL y).Perm (seqL 0 m) := by
  constructor
  · intro h
    rw [← dwnL_seq]
    exact h.map _
  · intro h
    have h2 := h.map fun x => x + 1
    rw [upL_dwnL, upL_seq] at h2
    exact h2
def digB (n : Int) (y : List Int) : Bool := isDig n && decide (sortedL y = seqL 1 (n.toNat - 1))
theorem digB_ord (m : Nat) (y : List Int) (h : y.length = m) : decide (sortedL y = seqL 1 m) = ordB m (dwnL y) := by
  unfold ordB
  rw [dwnL_length, decide_eq_true h, Bool.true_and]
  exact decide_eq_decide.2 (by rw [sortedL_seq, sortedL_seq]; exact perm_dwn m y)
theorem digB_len (m : Nat) (y : List Int) (h : ¬ y.length = m) : decide (sortedL y = seqL 1 m) = false := by
  rw [decide_eq_false_iff_not, sortedL_seq]
  intro hp
  have := hp.length_eq
  rw [seqL_length] at this
  exact h this
theorem digB_out (m : Nat) (y : List Int) (i : Nat) (hi : i < y.length) (h : ¬ (1 ≤ y.getD i 0 ∧ y.getD i 0 ≤ (m : Int))) : decide (sortedL y = seqL 1 m) = false := by
  rw [decide_eq_false_iff_not, sortedL_seq]
  intro hp
  have hm : y.getD i 0 ∈ y := by rw [List.getD_eq_getElem?_getD, List.getElem?_eq_getElem hi]; exact List.getElem_mem _
  have := (mem_seqL_iff 1 m _).1 (hp.subset hm)
  omega
def drC (n : Int) (y : List Int) : Int := if digB n y = true then 0 else 2
def drQ (n : Int) (y : List Int) : Int := if digB n y = true then n else 0
def drK (n : Int) (y : List Int) : Nat := if digB n y = true then y.length else 0
def drL (n : Int) (y : List Int) : List Int := if digB n y = true then digL n.toNat y else []
theorem drK_le (n : Int) (y : List Int) : drK n y ≤ 16 := by
  unfold drK
  by_cases h : digB n y = true
  · rw [if_pos h]
    unfold digB at h
    rw [Bool.and_eq_true, decide_eq_true_iff] at h
    have h1 := congrArg List.length h.2
    rw [sortedL_length, seqL_length] at h1
    have h2 : n = 2 ∨ n = 4 ∨ n = 8 := of_decide_eq_true h.1
    omega
  · rw [if_neg h]; omega
end Go.Abs
end

section
set_option maxRecDepth 100000
set_option maxHeartbeats 2000000
namespace Go.Proofs.YtpienljnoaendaaGreat.A
open Go Go.Abs Go.RowKit
theorem equalI_c (v w : Value) (y z : List Int) (H : AH) (hv : Rd 1 H v y.length y) (hw : Rd 1 H w z.length z) (hy : y.length ≤ 4294967296) (hz : z.length ≤ 4294967296) :
    ACalls Tryz.prog 206 [v, w] H (is (.bool (decide (y = z))) H) := by
  refine acalls_of_awp [.tmp 4] Tryz.func206 (by kernel_rfl) rfl rfl (Nat.le_of_ble_eq_true rfl) (by kernel_rfl) ?_
  by_cases hl : y.length = z.length
  · have e1 : ((y.length : Int) != (z.length : Int)) = false := by rw [hl]; exact bne_self_eq_false _
    try simp (disch := first | omega | (simp only [L3] <;> omega)) only [Sall,evalOp,init,binA_s,binE,binI,unE,convE,okNil,builtE,gv,TD.isAgg,resV,↓reduceIte,Nat.reduceEqDiff,reduceCtorEq,Nat.reduceAdd,Nat.reduceMul,Nat.reduceLeDiff,quietOp,blindOp,Int.reduceEq,Int.reduceLT,Int.reduceLE,Nat.reduceLT,tiA, builtE, hv.len, hw.len, e1]
    refine awp_loop (fun m t H' => ∃ a : Nat, m = y.length - a ∧ a ≤ y.length ∧ t 13 = .int .i64 a ∧ t 12 = .int .i64 y.length ∧ t 0 = v ∧ t 1 = w ∧ H' = H ∧ (∀ i, i < a → y.getD i 0 = z.getD i 0)) y.length ?_ ?_
    · refine ⟨0, by omega, by omega, ?_⟩
      try simp (disch := first | omega | (simp only [L3] <;> omega)) only [Sall,evalOp,init,binA_s,binE,binI,unE,convE,okNil,builtE,gv,TD.isAgg,resV,↓reduceIte,Nat.reduceEqDiff,reduceCtorEq,Nat.reduceAdd,Nat.reduceMul,Nat.reduceLeDiff,quietOp,blindOp,Int.reduceEq,Int.reduceLT,Int.reduceLE,Nat.reduceLT,tiA, Int.natCast_zero, Nat.not_lt_zero, false_implies]
    · rintro m t H' ⟨a, hm, han, h13, h12, h0, h1, rfl, hall⟩
      try simp (disch := first | omega | (simp only [L3] <;> omega)) only [Sall,evalOp,init,binA_s,binE,binI,unE,convE,okNil,builtE,gv,TD.isAgg,resV,↓reduceIte,Nat.reduceEqDiff,reduceCtorEq,Nat.reduceAdd,Nat.reduceMul,Nat.reduceLeDiff,quietOp,blindOp,Int.reduceEq,Int.reduceLT,Int.reduceLE,Nat.reduceLT,tiA, h13, h12]
      refine condC_dec (fun h => ?_) (fun h => ?_)
      · obtain ⟨i, o, uu, cc, r, rfl, hr, _, hg, _⟩ := hv.get (by omega)
        obtain ⟨i2, o2, uu2, cc2, r2, rfl, hr2, _, hg2, _⟩ := hw.get (by omega)
        have g1 := hg a (by omega)
        have g2 := hg2 a (by omega)
        refine draw_id (by kernel_rfl) (by kernel_rfl) ?_
        by_cases hx : y.getD a 0 = z.getD a 0
        · have e2 : (y.getD a 0 != z.getD a 0) = false := by rw [hx]; exact bne_self_eq_false _
          try simp (disch := first | omega | (simp only [L3] <;> omega)) only [Sall,evalOp,init,binA_s,binE,binI,unE,convE,okNil,builtE,gv,TD.isAgg,resV,↓reduceIte,Nat.reduceEqDiff,reduceCtorEq,Nat.reduceAdd,Nat.reduceMul,Nat.reduceLeDiff,quietOp,blindOp,Int.reduceEq,Int.reduceLT,Int.reduceLE,Nat.reduceLT,tiA, h13, h12, h0, h1, hr, g1, hr2, g2, e2, w64]
          (repeat refine And.intro (by omega) ?_)
          refine ⟨y.length - (a + 1), by omega, a + 1, rfl, by omega, rfl, fun i hi => ?_⟩
          by_cases e : i = a
          · rw [e]; exact hx
          · exact hall i (by omega)
        · have e2 : (y.getD a 0 != z.getD a 0) = true := bne_iff_ne.2 hx
          try simp (disch := first | omega | (simp only [L3] <;> omega)) only [Sall,evalOp,init,binA_s,binE,binI,unE,convE,okNil,builtE,gv,TD.isAgg,resV,↓reduceIte,Nat.reduceEqDiff,reduceCtorEq,Nat.reduceAdd,Nat.reduceMul,Nat.reduceLeDiff,quietOp,blindOp,Int.reduceEq,Int.reduceLT,Int.reduceLE,Nat.reduceLT,tiA, h13, h12, h0, h1, hr, g1, hr2, g2, e2, w64]
          (repeat refine And.intro (by omega) ?_)
          rw [decide_eq_false fun e => hx (by rw [e])]
          exact ⟨rfl, rfl⟩
      · try simp (disch := first | omega | (simp only [L3] <;> omega)) only [Sall,evalOp,init,binA_s,binE,binI,unE,convE,okNil,builtE,gv,TD.isAgg,resV,↓reduceIte,Nat.reduceEqDiff,reduceCtorEq,Nat.reduceAdd,Nat.reduceMul,Nat.reduceLeDiff,quietOp,blindOp,Int.reduceEq,Int.reduceLT,Int.reduceLE,Nat.reduceLT,tiA, h0, h1]
        have ha : a = y.length := by omega
        subst ha
        rw [decide_eq_true (List.ext_getElem? fun i => by
          by_cases hi : i < y.length
          · have h1 := hall i hi
            rw [List.getD_eq_getElem?_getD, List.getD_eq_getElem?_getD, List.getElem?_eq_getElem hi, List.getElem?_eq_getElem (by omega)] at h1
            rw [List.getElem?_eq_getElem hi, List.getElem?_eq_getElem (by omega)]
            exact congrArg some h1
          · rw [List.getElem?_eq_none (by omega), List.getElem?_eq_none (by omega)])]
        exact ⟨rfl, rfl⟩
  · have e1 : ((y.length : Int) != (z.length : Int)) = true := by rw [bne_iff_ne]; omega
    try simp (disch := first | omega | (simp only [L3] <;> omega)) only [Sall,evalOp,init,binA_s,binE,binI,unE,convE,okNil,builtE,gv,TD.isAgg,resV,↓reduceIte,Nat.reduceEqDiff,reduceCtorEq,Nat.reduceAdd,Nat.reduceMul,Nat.reduceLeDiff,quietOp,blindOp,Int.reduceEq,Int.reduceLT,Int.reduceLE,Nat.reduceLT,tiA, builtE, hv.len, hw.len, e1]
    rw [decide_eq_false fun e => hl (by rw [e])]
    exact ⟨rfl, rfl⟩
theorem DigitRobin_c (q : Int) (v : Value) (m : Nat) (y : List Int) (H : AH) (hq : -9223372036854775808 ≤ q ∧ q ≤ 9223372036854775807) (hv : Rd 1 H v m y) (hm : m ≤ 4294967296) :
    ACalls Tryz.prog 78 [.int .i64 q, v] H (fun r H' => ∃ u, r = .tuple #[.agg #[.int .i64 (drQ q y), u], .int .i64 (drC q y)] ∧ Up H.next H H' ∧ Fr 14 69 H.next H'.next H' u (drK q y) (drL q y)) := by
  have hmy : y.length = m := by have := hv.1; omega
  subst hmy
  refine ACalls.wf (by kernel_rfl) fun hs => acalls_of_awp [.cell 4 26, .tmp 5] Tryz.func78 (by kernel_rfl) rfl rfl (Nat.le_of_ble_eq_true rfl) (by kernel_rfl) ?_
  obtain ⟨H1, e1⟩ : ∃ H1, H1 = H.push ⟨26, true, [.int .i64 0, .slice none 0 0]⟩ := ⟨_, rfl⟩
  have up1 : Up H.next H H1 := by rw [e1]; exact (Up.refl _ H).push (by omega) _
  have n1 : H1.next = H.next + 1 := by rw [e1]; rfl
  have r1 : H1.row H.next = some ⟨26, true, [.int .i64 0, .slice none 0 0]⟩ := by rw [e1, AH.push_row, if_pos rfl]
  try simp (disch := first | omega | (simp only [L3] <;> omega)) only [Sall,evalOp,init,binA_s,binE,binI,unE,convE,okNil,builtE,gv,TD.isAgg,resV,↓reduceIte,Nat.reduceEqDiff,reduceCtorEq,Nat.reduceAdd,Nat.reduceMul,Nat.reduceLeDiff,quietOp,blindOp,Int.reduceEq,Int.reduceLT,Int.reduceLE,Nat.reduceLT,tiA, true_and]
  rw [← e1]
  clear e1
  refine (isDigit_c q _).to ?_
  have eq0 : decide (q = 2 ∨ q = 4 ∨ q = 8) = isDig q := rfl
  rw [eq0]
  unfold drQ drC drK drL digB
  cases hd : isDig q with
  | false =>
    try simp (disch := first | omega | (simp only [L3] <;> omega)) only [Sall,evalOp,init,binA_s,binE,binI,unE,convE,okNil,builtE,gv,TD.isAgg,resV,↓reduceIte,Nat.reduceEqDiff,reduceCtorEq,Nat.reduceAdd,Nat.reduceMul,Nat.reduceLeDiff,quietOp,blindOp,Int.reduceEq,Int.reduceLT,Int.reduceLE,Nat.reduceLT,tiA, Bool.not_false, Bool.false_and, r1]
    exact ⟨_, rfl, up1.set (Nat.le_refl _) _, ⟨rfl, .inl ⟨rfl, rfl⟩⟩⟩
  | true =>
    obtain ⟨n, rfl, hn, hn2, hn8⟩ := isDig_cases hd
    have hv1 := hv.same (up1.le hs).row
    have hq1 : ((n : Int).toNat - 1) = n - 1 := by omega
    rw [Int.toNat_natCast]
    try simp (disch := first | omega | (simp only [L3] <;> omega)) only [Sall,evalOp,init,binA_s,binE,binI,unE,convE,okNil,builtE,gv,TD.isAgg,resV,↓reduceIte,Nat.reduceEqDiff,reduceCtorEq,Nat.reduceAdd,Nat.reduceMul,Nat.reduceLeDiff,quietOp,blindOp,Int.reduceEq,Int.reduceLT,Int.reduceLE,Nat.reduceLT,tiA, Bool.not_true]
    refine (values_c v H1 hv1.one).to ?_
    try simp (disch := first | omega | (simp only [L3] <;> omega)) only [Sall,evalOp,init,binA_s,binE,binI,unE,convE,okNil,builtE,gv,TD.isAgg,resV,↓reduceIte,Nat.reduceEqDiff,reduceCtorEq,Nat.reduceAdd,Nat.reduceMul,Nat.reduceLeDiff,quietOp,blindOp,Int.reduceEq,Int.reduceLT,Int.reduceLE,Nat.reduceLT,tiA, true_and]
    obtain ⟨H2, e2⟩ : ∃ H2, H2 = H1.push ⟨33, true, [v]⟩ := ⟨_, rfl⟩
    have up2 : Up H1.next H1 H2 := by rw [e2]; exact (Up.refl _ _).push (by omega) _
    have n2 : H2.next = H1.next + 1 := by rw [e2]; rfl
    have r2 : H2.row H1.next = some ⟨33, true, [v]⟩ := by rw [e2, AH.push_row, if_pos rfl]
    rw [← e2]
    clear e2
    have upp : Up H.next H H2 := up1.trans up2 (by omega)
    refine (sorted_c H1.next v y H2 r2 (hv.same (upp.le hs).row) hm).mono ?_
    rintro u H3 ⟨up3, hf3⟩
    have n3 := up3.next
    refine Holds.mp ?_
    try simp (disch := first | omega | (simp only [L3] <;> omega)) only [Sall,evalOp,init,binA_s,binE,binI,unE,convE,okNil,builtE,gv,TD.isAgg,resV,↓reduceIte,Nat.reduceEqDiff,reduceCtorEq,Nat.reduceAdd,Nat.reduceMul,Nat.reduceLeDiff,quietOp,blindOp,Int.reduceEq,Int.reduceLT,Int.reduceLE,Nat.reduceLT,tiA, w64]
    refine (numbersFrom_c 1 ((n : Int) - 1) (n - 1) (by omega) (by omega) (by omega) H3).mono ?_
    rintro w H4 ⟨up4, hf4⟩
    have n4 := up4.next
    refine Holds.mp ?_
    try simp (disch := first | omega | (simp only [L3] <;> omega)) only [Sall,evalOp,init,binA_s,binE,binI,unE,convE,okNil,builtE,gv,TD.isAgg,resV,↓reduceIte,Nat.reduceEqDiff,reduceCtorEq,Nat.reduceAdd,Nat.reduceMul,Nat.reduceLeDiff,quietOp,blindOp,Int.reduceEq,Int.reduceLT,Int.reduceLE,Nat.reduceLT,tiA, true_and]
    have hl3 := sortedL_length y
    have hl4 : (seqL 1 (n - 1)).length = n - 1 := seqL_length _ _
    have hr3 : Rd 1 H4 u (sortedL y).length (sortedL y) := by rw [hl3]; exact (hf3.same fun i _ hi => up4.row i hi).rd
    have hr4 : Rd 1 H4 w (seqL 1 (n - 1)).length (seqL 1 (n - 1)) := by rw [hl4]; exact hf4.rd
    refine (equalI_c u w (sortedL y) (seqL 1 (n - 1)) H4 hr3 hr4 (by omega) (by omega)).to ?_
    have upE : Up H.next H H4 := ⟨by omega, fun i hi => by rw [up4.row i (by omega), up3.row i (by omega), upp.row i hi]⟩
    have r4 : H4.row H.next = some ⟨26, true, [.int .i64 0, .slice none 0 0]⟩ := by rw [up4.row _ (by omega), up3.row _ (by omega), up2.row _ (by omega), r1]
    by_cases he : sortedL y = seqL 1 (n - 1)
    · rw [decide_eq_true he]
      try simp (disch := first | omega | (simp only [L3] <;> omega)) only [Sall,evalOp,init,binA_s,binE,binI,unE,convE,okNil,builtE,gv,TD.isAgg,resV,↓reduceIte,Nat.reduceEqDiff,reduceCtorEq,Nat.reduceAdd,Nat.reduceMul,Nat.reduceLeDiff,quietOp,blindOp,Int.reduceEq,Int.reduceLT,Int.reduceLE,Nat.reduceLT,tiA, Bool.not_true, Bool.and_self, Bool.and_true]
      have hyn : y.length = n - 1 := by rw [← hl3, he, hl4]
      refine (digitRobin_c n v y H4 (by omega) (hv.same (upE.le hs).row) (by omega)).ex ?_
      rintro x H5 ⟨up5, hf5⟩
      have n5 := up5.next
      have r5 : H5.row H.next = some ⟨26, true, [.int .i64 0, .slice none 0 0]⟩ := by rw [up5.row _ (by omega), r4]
      have o5 := hf5.rd.one
      try simp (disch := first | omega | (simp only [L3] <;> omega)) only [Sall,evalOp,init,binA_s,binE,binI,unE,convE,okNil,builtE,gv,TD.isAgg,resV,↓reduceIte,Nat.reduceEqDiff,reduceCtorEq,Nat.reduceAdd,Nat.reduceMul,Nat.reduceLeDiff,quietOp,blindOp,Int.reduceEq,Int.reduceLT,Int.reduceLE,Nat.reduceLT,tiA, r5, o5, if_true]
      refine ⟨_, rfl, (upE.trans up5 (by omega)).set (Nat.le_refl _) _, ?_⟩
      exact (hf5.same (H' := H5.setCells H.next [.int .i64 n, x]) fun i hi _ => by rw [AH.setCells_row, if_neg (by omega)]).wide (by omega) (Nat.le_refl _)
    · rw [decide_eq_false he]
      try simp (disch := first | omega | (simp only [L3] <;> omega)) only [Sall,evalOp,init,binA_s,binE,binI,unE,convE,okNil,builtE,gv,TD.isAgg,resV,↓reduceIte,Nat.reduceEqDiff,reduceCtorEq,Nat.reduceAdd,Nat.reduceMul,Nat.reduceLeDiff,quietOp,blindOp,Int.reduceEq,Int.reduceLT,Int.reduceLE,Nat.reduceLT,tiA, Bool.not_false, Bool.and_false, r4]
      exact ⟨_, rfl, upE.set (Nat.le_refl _) _, ⟨rfl, .inl ⟨rfl, rfl⟩⟩⟩
theorem l09Digits_c (q : Int) (v : Value) (y : List Int) (H : AH) (hv : Rd 1 H v y.length y) (hm : y.length ≤ 4294967296) :
    ACalls Tryz.prog 210 [.int .i64 q, v] H (is (.bool (digB q y)) H) := by
  refine acalls_up rfl (ACalls.wf (by kernel_rfl) fun hs => acalls_of_awp [.tmp 4] Tryz.func210 (by kernel_rfl) rfl rfl (Nat.le_of_ble_eq_true rfl) (by kernel_rfl) ?_)
  unfold digB
  cases hd : isDig q with
  | false =>
    have h := of_decide_eq_false hd
    have e2 : (q != 2) = true := by rw [bne_iff_ne]; omega
    have e4 : (q != 4) = true := by rw [bne_iff_ne]; omega
    have e8 : (q != 8) = true := by rw [bne_iff_ne]; omega
    try simp (disch := first | omega | (simp only [L3] <;> omega)) only [Sall,evalOp,init,binA_s,binE,binI,unE,convE,okNil,builtE,gv,TD.isAgg,resV,↓reduceIte,Nat.reduceEqDiff,reduceCtorEq,Nat.reduceAdd,Nat.reduceMul,Nat.reduceLeDiff,quietOp,blindOp,Int.reduceEq,Int.reduceLT,Int.reduceLE,Nat.reduceLT,tiA, e2, e4, e8, Bool.false_and]
    exact Up.refl _ _
  | true =>
    obtain ⟨n, rfl, hn, hn2, hn8⟩ := isDig_cases hd
    have hneq : (((n : Int) != 2) = false ∧ ((n : Int) != 4) = true ∧ ((n : Int) != 8) = true) ∨ (((n : Int) != 2) = true ∧ ((n : Int) != 4) = false ∧ ((n : Int) != 8) = true) ∨ (((n : Int) != 2) = true ∧ ((n : Int) != 4) = true ∧ ((n : Int) != 8) = false) := by
      simp only [List.mem_cons, List.not_mem_nil, or_false] at hn
      rcases hn with rfl | rfl | rfl
      · exact .inl ⟨rfl, rfl, rfl⟩
      · exact .inr (.inl ⟨rfl, rfl, rfl⟩)
      · exact .inr (.inr ⟨rfl, rfl, rfl⟩)
    have em : ((n : Int) - 1) = ((n - 1 : Nat) : Int) := by omega
    rw [Bool.true_and, Int.toNat_natCast]
    refine Holds.mp ?_
    rcases hneq with ⟨e2, e4, e8⟩ | ⟨e2, e4, e8⟩ | ⟨e2, e4, e8⟩ <;> rw [holds_def]
    all_goals
      by_cases hl : y.length = n - 1
      · have e1 : ((y.length : Int) != ((n - 1 : Nat) : Int)) = false := by rw [hl]; exact bne_self_eq_false _
        try simp (disch := first | omega | (simp only [L3] <;> omega)) only [Sall,evalOp,init,binA_s,binE,binI,unE,convE,okNil,builtE,gv,TD.isAgg,resV,↓reduceIte,Nat.reduceEqDiff,reduceCtorEq,Nat.reduceAdd,Nat.reduceMul,Nat.reduceLeDiff,quietOp,blindOp,Int.reduceEq,Int.reduceLT,Int.reduceLE,Nat.reduceLT,tiA, e2, e4, e8, e1, builtE, hv.len, w64, em, zeros_zero]
        refine awp_loop (fun m t H' => ∃ (k : Nat) (w : Value) (lo hi : Nat), m = y.length - k ∧ k ≤ y.length ∧ t 6 = .int .i64 k ∧ t 5 = w ∧ t 0 = .int .i64 n ∧ t 1 = v ∧ H.next ≤ lo ∧ lo ≤ hi ∧ hi ≤ H'.next ∧ Up H.next H H' ∧ Fr 1 2 lo hi H' w k (dwnL (y.take k)) ∧ (∀ i, i < k → 1 ≤ y.getD i 0 ∧ y.getD i 0 ≤ ((n - 1 : Nat) : Int))) y.length ?_ ?_
        · refine ⟨0, .slice (some ⟨H.next, 0, some 1⟩) 0 0, H.next, H.next + 1, by omega, by omega, ?_⟩
          try simp (disch := first | omega | (simp only [L3] <;> omega)) only [Sall,evalOp,init,binA_s,binE,binI,unE,convE,okNil,builtE,gv,TD.isAgg,resV,↓reduceIte,Nat.reduceEqDiff,reduceCtorEq,Nat.reduceAdd,Nat.reduceMul,Nat.reduceLeDiff,quietOp,blindOp,Int.reduceEq,Int.reduceLT,Int.reduceLE,Nat.reduceLT,tiA, Int.natCast_zero, Nat.not_lt_zero, false_implies, List.take_zero]
          (repeat refine And.intro (by omega) ?_)
          exact ⟨(Up.refl _ H).push (Nat.le_refl _) _, rfl, .inr ⟨H.next, by omega, by omega, rfl, by rw [AH.push_row, if_pos rfl]; rfl⟩⟩
        · rintro m t H' ⟨k, w, lo, hi, hm, hkn, h6, h5, h0, h1, hlo, hlh, hhi, hup, hfr, hall⟩
          have hv' : Rd 1 H' v y.length y := hv.same (hup.le hs).row
          have hup1 := hup.next
          try simp (disch := first | omega | (simp only [L3] <;> omega)) only [Sall,evalOp,init,binA_s,binE,binI,unE,convE,okNil,builtE,gv,TD.isAgg,resV,↓reduceIte,Nat.reduceEqDiff,reduceCtorEq,Nat.reduceAdd,Nat.reduceMul,Nat.reduceLeDiff,quietOp,blindOp,Int.reduceEq,Int.reduceLT,Int.reduceLE,Nat.reduceLT,tiA, h6, h1, builtE, hv'.len]
          refine condC_dec (fun h => ?_) (fun h => ?_)
          · obtain ⟨i, o, uu, cc, r, rfl, hr, _, hg, _⟩ := hv'.get (by omega)
            have g1 := hg k (by omega)
            have hout := digB_out (n - 1) y k (by omega)
            have hsn := dwnL_snoc y k (by omega)
            have hallk : ∀ x, y.getD k 0 = x → (1 ≤ x ∧ x ≤ ((n - 1 : Nat) : Int)) → ∀ i, i < k + 1 → 1 ≤ y.getD i 0 ∧ y.getD i 0 ≤ ((n - 1 : Nat) : Int) := fun x hx hxx i hi => by
              by_cases e : i = k
              · rw [e, hx]; exact hxx
              · exact hall i (by omega)
            revert g1 hout hsn hallk
            generalize y.getD k 0 = x
            intro g1 hout hsn hallk
            try simp (disch := first | omega | (simp only [L3] <;> omega)) only [Sall,evalOp,init,binA_s,binE,binI,unE,convE,okNil,builtE,gv,TD.isAgg,resV,↓reduceIte,Nat.reduceEqDiff,reduceCtorEq,Nat.reduceAdd,Nat.reduceMul,Nat.reduceLeDiff,quietOp,blindOp,Int.reduceEq,Int.reduceLT,Int.reduceLE,Nat.reduceLT,tiA, h6, h1, h0, hr, g1, w64, em]
            (repeat refine And.intro (by omega) ?_)
            refine (l01In_c _ _ _ _).to ?_
            by_cases hx : 1 ≤ x ∧ x ≤ ((n - 1 : Nat) : Int)
            · rw [decide_eq_true hx]
              have zz : zeros 1 [.int .i64 0] = [.int .i64 0] := rfl
              try simp (disch := first | omega | (simp only [L3] <;> omega)) only [Sall,evalOp,init,binA_s,binE,binI,unE,convE,okNil,builtE,gv,TD.isAgg,resV,↓reduceIte,Nat.reduceEqDiff,reduceCtorEq,Nat.reduceAdd,Nat.reduceMul,Nat.reduceLeDiff,quietOp,blindOp,Int.reduceEq,Int.reduceLT,Int.reduceLE,Nat.reduceLT,tiA, h6, h5, h1, h0, hr, g1, w64, Bool.not_true, zz, slCells]
              (repeat refine And.intro (by omega) ?_)
              obtain ⟨H4, e4'⟩ : ∃ H4, H4 = H'.push ⟨2, true, [.int .i64 (x - 1)]⟩ := ⟨_, rfl⟩
              have n4 : H4.next = H'.next + 1 := by rw [e4']; rfl
              have s4 : ∀ i, i < H'.next → H4.row i = H'.row i := fun i hi => by rw [e4', AH.push_row, if_neg (by omega)]
              rw [← e4']
              clear e4'
              refine appE_fr (k := 1) (lo := lo) (hi := hi) (l := dwnL (y.take k)) (m := [x - 1]) (hfr.same fun i _ hi => s4 i (by omega)) rfl (by omega) rfl (by omega) (by decide) (by omega) (by omega) ?_
              intro v' H5 n5 s5 f5
              try simp (disch := first | omega | (simp only [L3] <;> omega)) only [Sall,evalOp,init,binA_s,binE,binI,unE,convE,okNil,builtE,gv,TD.isAgg,resV,↓reduceIte,Nat.reduceEqDiff,reduceCtorEq,Nat.reduceAdd,Nat.reduceMul,Nat.reduceLeDiff,quietOp,blindOp,Int.reduceEq,Int.reduceLT,Int.reduceLE,Nat.reduceLT,tiA, h6, h1, h0, w64]
              refine ⟨y.length - (k + 1), by omega, k + 1, v', H4.next, H4.next + 1, rfl, by omega, rfl, rfl, by omega, by omega, by omega, ⟨by omega, fun z hz => by rw [s5 z (by omega) (by omega), s4 z (by omega), hup.row z hz]⟩, ?_, hallk _ rfl hx⟩
              rw [hsn]; exact f5
            · rw [decide_eq_false hx]
              try simp (disch := first | omega | (simp only [L3] <;> omega)) only [Sall,evalOp,init,binA_s,binE,binI,unE,convE,okNil,builtE,gv,TD.isAgg,resV,↓reduceIte,Nat.reduceEqDiff,reduceCtorEq,Nat.reduceAdd,Nat.reduceMul,Nat.reduceLeDiff,quietOp,blindOp,Int.reduceEq,Int.reduceLT,Int.reduceLE,Nat.reduceLT,tiA, Bool.not_false]
              rw [hout hx]
              exact ⟨rfl, hup⟩
          · have hk : k = y.length := by omega
            subst hk
            rw [List.take_length] at hfr
            have hol := dwnL_length y
            have hfw2 : Rd 1 H' w (dwnL y).length (dwnL y) := by rw [hol]; exact hfr.rd
            try simp (disch := first | omega | (simp only [L3] <;> omega)) only [Sall,evalOp,init,binA_s,binE,binI,unE,convE,okNil,builtE,gv,TD.isAgg,resV,↓reduceIte,Nat.reduceEqDiff,reduceCtorEq,Nat.reduceAdd,Nat.reduceMul,Nat.reduceLeDiff,quietOp,blindOp,Int.reduceEq,Int.reduceLT,Int.reduceLE,Nat.reduceLT,tiA, h5, h0, w64, em]
            refine (l01Order_c (n - 1) (by omega) w (dwnL y) H' hfw2 (by omega)).to ?_
            try simp (disch := first | omega | (simp only [L3] <;> omega)) only [Sall,evalOp,init,binA_s,binE,binI,unE,convE,okNil,builtE,gv,TD.isAgg,resV,↓reduceIte,Nat.reduceEqDiff,reduceCtorEq,Nat.reduceAdd,Nat.reduceMul,Nat.reduceLeDiff,quietOp,blindOp,Int.reduceEq,Int.reduceLT,Int.reduceLE,Nat.reduceLT,tiA, true_and]
            rw [digB_ord (n - 1) y hl]
            exact ⟨rfl, hup⟩
      · have e1 : ((y.length : Int) != ((n - 1 : Nat) : Int)) = true := by rw [bne_iff_ne]; omega
        try simp (disch := first | omega | (simp only [L3] <;> omega)) only [Sall,evalOp,init,binA_s,binE,binI,unE,convE,okNil,builtE,gv,TD.isAgg,resV,↓reduceIte,Nat.reduceEqDiff,reduceCtorEq,Nat.reduceAdd,Nat.reduceMul,Nat.reduceLeDiff,quietOp,blindOp,Int.reduceEq,Int.reduceLT,Int.reduceLE,Nat.reduceLT,tiA, e2, e4, e8, e1, builtE, hv.len, w64, em]
        rw [digB_len (n - 1) y hl]
        exact ⟨rfl, Up.refl _ _⟩
theorem specDigitRobin_c (q : Int) (v : Value) (m : Nat) (y : List Int) (H : AH) (hq : -9223372036854775808 ≤ q ∧ q ≤ 9223372036854775807) (hv : Rd 1 H v m y) (hm : m ≤ 4294967296) :
    ACalls Tryz.prog 79 [.int .i64 q, v] H (fun r H' => ∃ u, r = .tuple #[.agg #[.int .i64 (drQ q y), u], .int .i64 (drC q y)] ∧ Up H.next H H' ∧ Fr 14 69 H.next H'.next H' u (drK q y) (drL q y)) := by
  have hmy : y.length = m := by have := hv.1; omega
  subst hmy
  refine ACalls.wf (by kernel_rfl) fun hs => acalls_of_awp [.cell 4 26, .tmp 5] Tryz.func79 (by kernel_rfl) rfl rfl (Nat.le_of_ble_eq_true rfl) (by kernel_rfl) ?_
  obtain ⟨H1, e1⟩ : ∃ H1, H1 = H.push ⟨26, true, [.int .i64 0, .slice none 0 0]⟩ := ⟨_, rfl⟩
  have up1 : Up H.next H H1 := by rw [e1]; exact (Up.refl _ H).push (by omega) _
  have n1 : H1.next = H.next + 1 := by rw [e1]; rfl
  have r1 : H1.row H.next = some ⟨26, true, [.int .i64 0, .slice none 0 0]⟩ := by rw [e1, AH.push_row, if_pos rfl]
  try simp (disch := first | omega | (simp only [L3] <;> omega)) only [Sall,evalOp,init,binA_s,binE,binI,unE,convE,okNil,builtE,gv,TD.isAgg,resV,↓reduceIte,Nat.reduceEqDiff,reduceCtorEq,Nat.reduceAdd,Nat.reduceMul,Nat.reduceLeDiff,quietOp,blindOp,Int.reduceEq,Int.reduceLT,Int.reduceLE,Nat.reduceLT,tiA, true_and]
  rw [← e1]
  clear e1
  have hv1 := hv.same (up1.le hs).row
  refine (l09Digits_c q v y H1 hv1 hm).to ?_
  unfold drQ drC drK drL
  cases hd : digB q y with
  | false =>
    try simp (disch := first | omega | (simp only [L3] <;> omega)) only [Sall,evalOp,init,binA_s,binE,binI,unE,convE,okNil,builtE,gv,TD.isAgg,resV,↓reduceIte,Nat.reduceEqDiff,reduceCtorEq,Nat.reduceAdd,Nat.reduceMul,Nat.reduceLeDiff,quietOp,blindOp,Int.reduceEq,Int.reduceLT,Int.reduceLE,Nat.reduceLT,tiA, Bool.not_false, r1]
    exact ⟨_, rfl, up1.set (Nat.le_refl _) _, ⟨rfl, .inl ⟨rfl, rfl⟩⟩⟩
  | true =>
    have hd2 := hd
    unfold digB at hd2
    rw [Bool.and_eq_true, decide_eq_true_iff] at hd2
    obtain ⟨n, rfl, hn, hn2, hn8⟩ := isDig_cases hd2.1
    have hyn : y.length = n - 1 := by
      have h1 := congrArg List.length hd2.2
      rw [sortedL_length, seqL_length, Int.toNat_natCast] at h1
      exact h1
    rw [Int.toNat_natCast]
    try simp (disch := first | omega | (simp only [L3] <;> omega)) only [Sall,evalOp,init,binA_s,binE,binI,unE,convE,okNil,builtE,gv,TD.isAgg,resV,↓reduceIte,Nat.reduceEqDiff,reduceCtorEq,Nat.reduceAdd,Nat.reduceMul,Nat.reduceLeDiff,quietOp,blindOp,Int.reduceEq,Int.reduceLT,Int.reduceLE,Nat.reduceLT,tiA, Bool.not_true]
    refine (l09Robin_c n v y H1 (by omega) hv1 (by omega)).ex ?_
    rintro x H5 ⟨up5, hf5⟩
    have n5 := up5.next
    have r5 : H5.row H.next = some ⟨26, true, [.int .i64 0, .slice none 0 0]⟩ := by rw [up5.row _ (by omega), r1]
    have o5 := hf5.rd.one
    try simp (disch := first | omega | (simp only [L3] <;> omega)) only [Sall,evalOp,init,binA_s,binE,binI,unE,convE,okNil,builtE,gv,TD.isAgg,resV,↓reduceIte,Nat.reduceEqDiff,reduceCtorEq,Nat.reduceAdd,Nat.reduceMul,Nat.reduceLeDiff,quietOp,blindOp,Int.reduceEq,Int.reduceLT,Int.reduceLE,Nat.reduceLT,tiA, r5, o5]
    refine ⟨_, rfl, (up1.trans up5 (by omega)).set (Nat.le_refl _) _, ?_⟩
    exact (hf5.same (H' := H5.setCells H.next [.int .i64 n, x]) fun i hi _ => by rw [AH.setCells_row, if_neg (by omega)]).wide (by omega) (Nat.le_refl _)
end Go.Proofs.YtpienljnoaendaaGreat.A
end

section
set_option maxRecDepth 100000
namespace Go.Proofs.YtpienljnoaendaaGreat.A
open Go Go.Abs Go.RowKit
theorem always_c (H : AH) : ACalls Tryz.prog 105 [] H (is (.bool true) H) := by
  refine acalls_of_awp [.tmp 0] Tryz.func105 (by kernel_rfl) rfl rfl (Nat.le_of_ble_eq_true rfl) (by kernel_rfl) ?_
  try simp (disch := first | omega | (simp only [ints_length, List.length_replicate] <;> omega)) only [Sall,evalOp,init,binA_s,binE,binI,unE,convE,okNil,builtE,gv,TD.isAgg,resV,↓reduceIte,Nat.reduceEqDiff,reduceCtorEq,Nat.reduceAdd,Nat.reduceMul,Nat.reduceLeDiff,quietOp,blindOp,Int.reduceEq,Int.reduceLT,Int.reduceLE,Nat.reduceLT,tiA, is]
def codeS (q : Int) (k : Nat) (l : List Int) (b : Bool) : Int := if schedB q k l = true then (if b = true then 0 else 2) else 1
theorem scheduleCode_c (q : Int) (v : Value) (k : Nat) (l : List Int) (g : FuncId) (cap : List Value) (b : Bool) (H : AH) (hv : Rd 14 H v k l) (hk : k ≤ 4294967296)
    (hg : ∀ H', Up H.next H H' → schedB q k l = true → ACalls Tryz.prog g cap H' (is (.bool b) H')) :
    ACalls Tryz.prog 104 [.agg #[.int .i64 q, v], .func (.func g) #[] cap.toArray] H (is (.int .i64 (codeS q k l b)) H) := by
  refine ACalls.wf (by kernel_rfl) fun hs => acalls_up rfl (acalls_of_awp [.tmp 4] Tryz.func104 (by kernel_rfl) rfl rfl (Nat.le_of_ble_eq_true rfl) (by kernel_rfl) ?_)
  have up : Up H.next H (H.push ⟨26, true, [.int .i64 q, v]⟩) := (Up.refl _ H).push (Nat.le_refl _) _
  have e1 : (H.push ⟨26, true, [.int .i64 q, v]⟩).row H.next = some ⟨26, true, [.int .i64 q, v]⟩ := by rw [AH.push_row, if_pos rfl]
  have hv1 := hv.same (up.le hs).row
  have hone := hv.one
  try simp (disch := first | omega | (simp only [ints_length, List.length_replicate] <;> omega)) only [Sall,evalOp,init,binA_s,binE,binI,unE,convE,okNil,builtE,gv,TD.isAgg,resV,↓reduceIte,Nat.reduceEqDiff,reduceCtorEq,Nat.reduceAdd,Nat.reduceMul,Nat.reduceLeDiff,quietOp,blindOp,Int.reduceEq,Int.reduceLT,Int.reduceLE,Nat.reduceLT,tiA, true_and]
  refine (IsSchedule_c q v k l _ hv1 hk).to ?_
  unfold codeS
  by_cases hb : schedB q k l = true
  · try simp (disch := first | omega | (simp only [ints_length, List.length_replicate] <;> omega)) only [Sall,evalOp,init,binA_s,binE,binI,unE,convE,okNil,builtE,gv,TD.isAgg,resV,↓reduceIte,Nat.reduceEqDiff,reduceCtorEq,Nat.reduceAdd,Nat.reduceMul,Nat.reduceLeDiff,quietOp,blindOp,Int.reduceEq,Int.reduceLT,Int.reduceLE,Nat.reduceLT,tiA, hb, Bool.not_true]
    refine (hg _ up hb).to ?_
    cases b with
    | true =>
      try simp (disch := first | omega | (simp only [ints_length, List.length_replicate] <;> omega)) only [Sall,evalOp,init,binA_s,binE,binI,unE,convE,okNil,builtE,gv,TD.isAgg,resV,↓reduceIte,Nat.reduceEqDiff,reduceCtorEq,Nat.reduceAdd,Nat.reduceMul,Nat.reduceLeDiff,quietOp,blindOp,Int.reduceEq,Int.reduceLT,Int.reduceLE,Nat.reduceLT,tiA, Bool.not_true]
      rw [if_pos hb]
      exact ⟨rfl, up⟩
    | false =>
      try simp (disch := first | omega | (simp only [ints_length, List.length_replicate] <;> omega)) only [Sall,evalOp,init,binA_s,binE,binI,unE,convE,okNil,builtE,gv,TD.isAgg,resV,↓reduceIte,Nat.reduceEqDiff,reduceCtorEq,Nat.reduceAdd,Nat.reduceMul,Nat.reduceLeDiff,quietOp,blindOp,Int.reduceEq,Int.reduceLT,Int.reduceLE,Nat.reduceLT,tiA, Bool.not_false]
      rw [if_pos hb]
      exact ⟨rfl, up⟩
  · have hb' : schedB q k l = false := by simpa using hb
    try simp (disch := first | omega | (simp only [ints_length, List.length_replicate] <;> omega)) only [Sall,evalOp,init,binA_s,binE,binI,unE,convE,okNil,builtE,gv,TD.isAgg,resV,↓reduceIte,Nat.reduceEqDiff,reduceCtorEq,Nat.reduceAdd,Nat.reduceMul,Nat.reduceLeDiff,quietOp,blindOp,Int.reduceEq,Int.reduceLT,Int.reduceLE,Nat.reduceLT,tiA, hb', Bool.not_false]
    exact up
end Go.Proofs.YtpienljnoaendaaGreat.A
end

section
set_option maxRecDepth 100000
set_option maxHeartbeats 2000000
namespace Go.Proofs.YtpienljnoaendaaGreat.A
open Go Go.Abs Go.RowKit
theorem IsRoundRobin_c (q : Int) (v : Value) (k : Nat) (l : List Int) (H : AH) (hv : Rd 14 H v k l) (hk : k ≤ 4294967296) :
    ACalls Tryz.prog 24 [.agg #[.int .i64 q, v]] H (is (.tuple #[.bool (schedB q k l && robinB q.toNat k l), .int .i64 (codeS q k l true)]) H) := by
  refine acalls_up (by simp [flat, Abs.scal]) (ACalls.wf (by kernel_rfl) fun hs => acalls_of_awp [.tmp 2, .tmp 3] Tryz.func24 (by kernel_rfl) rfl rfl (Nat.le_of_ble_eq_true rfl) (by kernel_rfl) ?_)
  have hone := hv.one
  have o1 := (Ow.refl hs).push ⟨26, true, [.int .i64 q, v]⟩
  try simp (disch := first | omega | (simp only [L3] <;> omega)) only [Sall,evalOp,init,binA_s,binE,binI,unE,convE,okNil,builtE,gv,TD.isAgg,resV,↓reduceIte,Nat.reduceEqDiff,reduceCtorEq,Nat.reduceAdd,Nat.reduceMul,Nat.reduceLeDiff,quietOp,blindOp,Int.reduceEq,Int.reduceLT,Int.reduceLE,Nat.reduceLT,tiA,tiXA, hone]
  obtain ⟨pi, epi⟩ : ∃ pi, pi = H.next := ⟨_, rfl⟩
  rw [← epi] at o1 ⊢
  generalize H.push ⟨26, true, [.int .i64 q, v]⟩ = H1 at o1 ⊢
  have hv1 := hv.same (o1.old hs)
  have g0 := (o1.rowAt 0 rfl).1
  try simp (disch := first | omega | (simp only [L3] <;> omega)) only [Sall,evalOp,init,binA_s,binE,binI,unE,convE,okNil,builtE,gv,TD.isAgg,resV,↓reduceIte,Nat.reduceEqDiff,reduceCtorEq,Nat.reduceAdd,Nat.reduceMul,Nat.reduceLeDiff,quietOp,blindOp,Int.reduceEq,Int.reduceLT,Int.reduceLE,Nat.reduceLT,tiA,tiXA, g0, hone]
  refine (scheduleCode_c q v k l 105 [] true H1 hv1 hk (fun H' _ _ => always_c H')).to ?_
  refine Holds.mp ?_
  unfold codeS
  obtain hE | hE : schedB q k l = true ∨ schedB q k l = false := by cases schedB q k l <;> simp
  · rw [if_pos hE, if_pos rfl, hE]
    obtain ⟨h2, _, _⟩ := schedB_at hE
    obtain ⟨n, rfl⟩ : ∃ n : Nat, q = n := ⟨q.toNat, by omega⟩
    rw [Int.toNat_natCast]
    have c0 : ((0 : Int) != 0) = false := rfl
    try simp (disch := first | omega | (simp only [L3] <;> omega)) only [Sall,evalOp,init,binA_s,binE,binI,unE,convE,okNil,builtE,gv,TD.isAgg,resV,↓reduceIte,Nat.reduceEqDiff,reduceCtorEq,Nat.reduceAdd,Nat.reduceMul,Nat.reduceLeDiff,quietOp,blindOp,Int.reduceEq,Int.reduceLT,Int.reduceLE,Nat.reduceLT,tiA,tiXA, c0, g0, hone]
    refine (isRoundRobin_c n v k l H1 hE hv1 hk).to ?_
    refine Holds.mp ?_
    try simp (disch := first | omega | (simp only [L3] <;> omega)) only [Sall,evalOp,init,binA_s,binE,binI,unE,convE,okNil,builtE,gv,TD.isAgg,resV,↓reduceIte,Nat.reduceEqDiff,reduceCtorEq,Nat.reduceAdd,Nat.reduceMul,Nat.reduceLeDiff,quietOp,blindOp,Int.reduceEq,Int.reduceLT,Int.reduceLE,Nat.reduceLT,tiA,tiXA, Bool.true_and]
    first | exact (by rw [epi]; exact o1.up) | exact ⟨rfl, by rw [epi]; exact o1.up⟩
  · rw [if_neg (by rw [hE]; simp), hE]
    have c0 : ((1 : Int) != 0) = true := rfl
    try simp (disch := first | omega | (simp only [L3] <;> omega)) only [Sall,evalOp,init,binA_s,binE,binI,unE,convE,okNil,builtE,gv,TD.isAgg,resV,↓reduceIte,Nat.reduceEqDiff,reduceCtorEq,Nat.reduceAdd,Nat.reduceMul,Nat.reduceLeDiff,quietOp,blindOp,Int.reduceEq,Int.reduceLT,Int.reduceLE,Nat.reduceLT,tiA,tiXA, c0, Bool.false_and]
    first | exact (by rw [epi]; exact o1.up) | exact ⟨rfl, by rw [epi]; exact o1.up⟩
theorem reo1_c (q : Int) (v : Value) (k : Nat) (l : List Int) (w : Value) (y : List Int) (p0 p1 : Nat) (H : AH) (hv : Rd 14 H v k l) (hk : k ≤ 4294967296) (hw : Rd 1 H w y.length y) (hy : y.length ≤ 4294967296) (h0 : H.row p0 = some ⟨33, true, [w]⟩) (h1 : H.row p1 = some ⟨26, true, [.int .i64 q, v]⟩) :
    ACalls Tryz.prog 202 [.pointer (some ⟨p0, 0, none⟩), .pointer (some ⟨p1, 0, none⟩)] H (is (.bool (ordB k y)) H) := by
  refine acalls_of_awp [.tmp 2] Tryz.func202 (by kernel_rfl) rfl rfl (Nat.le_of_ble_eq_true rfl) (by kernel_rfl) ?_
  have hwo := hw.one
  have hvo := hv.one
  try simp (disch := first | omega | (simp only [L3] <;> omega)) only [Sall,evalOp,init,binA_s,binE,binI,unE,convE,okNil,builtE,gv,TD.isAgg,resV,↓reduceIte,Nat.reduceEqDiff,reduceCtorEq,Nat.reduceAdd,Nat.reduceMul,Nat.reduceLeDiff,quietOp,blindOp,Int.reduceEq,Int.reduceLT,Int.reduceLE,Nat.reduceLT,tiA,tiXA, true_and]
  refine draw_id (by kernel_rfl) (by kernel_rfl) ?_
  try simp (disch := first | omega | (simp only [L3] <;> omega)) only [Sall,evalOp,init,binA_s,binE,binI,unE,convE,okNil,builtE,gv,TD.isAgg,resV,↓reduceIte,Nat.reduceEqDiff,reduceCtorEq,Nat.reduceAdd,Nat.reduceMul,Nat.reduceLeDiff,quietOp,blindOp,Int.reduceEq,Int.reduceLT,Int.reduceLE,Nat.reduceLT,tiA,tiXA, h0, h1, hwo, hvo]
  refine (sizeR_c v k l H hv hk).to ?_
  refine ⟨.inr (.inr (LE.refl _)), ?_⟩
  refine (isOrder_c k w y H hw hy).to ?_
  refine ⟨.inr (.inr (LE.refl _)), ?_⟩
  try simp (disch := first | omega | (simp only [L3] <;> omega)) only [Sall,evalOp,init,binA_s,binE,binI,unE,convE,okNil,builtE,gv,TD.isAgg,resV,↓reduceIte,Nat.reduceEqDiff,reduceCtorEq,Nat.reduceAdd,Nat.reduceMul,Nat.reduceLeDiff,quietOp,blindOp,Int.reduceEq,Int.reduceLT,Int.reduceLE,Nat.reduceLT,tiA,tiXA, is]
theorem ReorderRounds_c (q : Int) (v : Value) (k : Nat) (l : List Int) (w : Value) (y : List Int) (H : AH) (hv : Rd 14 H v k l) (hk : k ≤ 4294967296) (hw : Rd 1 H w y.length y) (hy : y.length ≤ 4294967296) :
    ACalls Tryz.prog 71 [.agg #[.int .i64 q, v], w] H (fun r H' => ∃ (q' : Int) (u : Value) (k' : Nat) (l' : List Int), r = .tuple #[.agg #[.int .i64 q', u], .int .i64 (codeS q k l (ordB k y))] ∧ (codeS q k l (ordB k y) = 0 → q' = q ∧ k' = k ∧ l' = reoL l y) ∧ Ow H H' [.sl 14 69 u k' (ints l')]) := by
  refine ACalls.wf (by kernel_rfl) fun hs => acalls_of_awp [.cell 4 26, .tmp 5] Tryz.func71 (by kernel_rfl) rfl rfl (Nat.le_of_ble_eq_true rfl) (by kernel_rfl) ?_
  have hone := hv.one
  have hwo := hw.one
  have o1 := (((Ow.refl hs).push ⟨26, true, [.int .i64 q, v]⟩).push ⟨33, true, [w]⟩).push ⟨26, true, [.int .i64 0, .slice none 0 0]⟩
  have o1 : Ow H (((H.push ⟨26, true, [.int .i64 q, v]⟩).push ⟨33, true, [w]⟩).push ⟨26, true, [.int .i64 0, .slice none 0 0]⟩) [.row H.next ⟨26, true, [.int .i64 q, v]⟩, .row (H.next + 1) ⟨33, true, [w]⟩, .row (H.next + 2) ⟨26, true, [.int .i64 0, .slice none 0 0]⟩] := o1
  try simp (disch := first | omega | (simp only [L3] <;> omega)) only [Sall,evalOp,init,binA_s,binE,binI,unE,convE,okNil,builtE,gv,TD.isAgg,resV,↓reduceIte,Nat.reduceEqDiff,reduceCtorEq,Nat.reduceAdd,Nat.reduceMul,Nat.reduceLeDiff,quietOp,blindOp,Int.reduceEq,Int.reduceLT,Int.reduceLE,Nat.reduceLT,tiA,tiXA, hone, hwo, asCells_one hwo]
  obtain ⟨pi, epi⟩ : ∃ pi, pi = H.next := ⟨_, rfl⟩
  rw [← epi] at o1 ⊢
  generalize ((H.push ⟨26, true, [.int .i64 q, v]⟩).push ⟨33, true, [w]⟩).push ⟨26, true, [.int .i64 0, .slice none 0 0]⟩ = H1 at o1 ⊢
  have hv1 := hv.same (o1.old hs)
  have hw1 := hw.same (o1.old hs)
  have hwl := hw.len
  have g0 := (o1.rowAt 0 rfl).1
  have g1 := (o1.rowAt 1 rfl).1
  have g2 := (o1.rowAt 2 rfl).1
  try simp (disch := first | omega | (simp only [L3] <;> omega)) only [Sall,evalOp,init,binA_s,binE,binI,unE,convE,okNil,builtE,gv,TD.isAgg,resV,↓reduceIte,Nat.reduceEqDiff,reduceCtorEq,Nat.reduceAdd,Nat.reduceMul,Nat.reduceLeDiff,quietOp,blindOp,Int.reduceEq,Int.reduceLT,Int.reduceLE,Nat.reduceLT,tiA,tiXA, g0, hone, hwo, List.mem_cons, List.not_mem_nil, or_false, forall_eq_or_imp, forall_eq, Array.size_empty]
  refine (scheduleCode_c q v k l 202 [.pointer (some ⟨pi + 1, 0, none⟩), .pointer (some ⟨pi, 0, none⟩)] (ordB k y) H1 hv1 hk ?_).to ?_
  · intro H' up' hb'
    have nx0 := (o1.rowAt 0 rfl).2.2
    have nx1 := (o1.rowAt 1 rfl).2.2
    exact reo1_c q v k l w y (pi + 1) pi H' (hv1.same (up'.le o1.sc).row) hk (hw1.same (up'.le o1.sc).row) hy (by rw [up'.row _ nx1]; exact g1) (by rw [up'.row _ nx0]; exact g0)
  refine Holds.mp ?_
  by_cases hc0 : codeS q k l (ordB k y) = 0
  · have c0 : ((0 : Int) != 0) = false := rfl
    rw [hc0]
    try simp (disch := first | omega | (simp only [L3] <;> omega)) only [Sall,evalOp,init,binA_s,binE,binI,unE,convE,okNil,builtE,gv,TD.isAgg,resV,↓reduceIte,Nat.reduceEqDiff,reduceCtorEq,Nat.reduceAdd,Nat.reduceMul,Nat.reduceLeDiff,quietOp,blindOp,Int.reduceEq,Int.reduceLT,Int.reduceLE,Nat.reduceLT,tiA,tiXA, c0, g0, hone]
    have hob : schedB q k l = true ∧ ordB k y = true := by
      unfold codeS at hc0
      by_cases hE : schedB q k l = true
      · rw [if_pos hE] at hc0
        refine ⟨hE, ?_⟩
        cases hq : ordB k y
        · rw [hq] at hc0; exact absurd hc0 (by decide)
        · rfl
      · rw [if_neg hE] at hc0; exact absurd hc0 (by decide)
    obtain ⟨hE, hord⟩ := hob
    obtain ⟨hyl, hyr, hyn⟩ := (ordB_iff k y).1 hord
    have hk40 := (schedB_at hE).2.1
    refine (with0_c q v H1 hone).to ?_
    refine Holds.mp ?_
    have o2 := ((o1.push ⟨26, true, [.int .i64 0, .slice none 0 0]⟩).putRow 3 rfl (cs' := [.int .i64 q, .slice none 0 0])).addNil 14 69
    have o2 : Ow H ((H1.push ⟨26, true, [.int .i64 0, .slice none 0 0]⟩).setCells H1.next [.int .i64 q, .slice none 0 0]) [.row pi ⟨26, true, [.int .i64 q, v]⟩, .row (pi + 1) ⟨33, true, [w]⟩, .row (pi + 2) ⟨26, true, [.int .i64 0, .slice none 0 0]⟩, .row H1.next ⟨26, true, [.int .i64 q, .slice none 0 0]⟩, .sl 14 69 (.slice none 0 0) 0 []] := o2
    have g1' : H1.row (pi + 1) = some ⟨33, true, [w]⟩ := g1
    have nx1 : (pi + 1 = H1.next) = False := eq_false (by have := (o1.rowAt 1 rfl).2.2; omega)
    try simp (disch := first | omega | (simp only [L3] <;> omega)) only [Sall,evalOp,init,binA_s,binE,binI,unE,convE,okNil,builtE,gv,TD.isAgg,resV,↓reduceIte,Nat.reduceEqDiff,reduceCtorEq,Nat.reduceAdd,Nat.reduceMul,Nat.reduceLeDiff,quietOp,blindOp,Int.reduceEq,Int.reduceLT,Int.reduceLE,Nat.reduceLT,tiA,tiXA, g1, nx1, hwo, builtE, hwl]
    generalize hp3 : H1.next = p3 at o2 nx1 ⊢
    generalize (H1.push ⟨26, true, [.int .i64 0, .slice none 0 0]⟩).setCells p3 [.int .i64 q, .slice none 0 0] = H2 at o2 ⊢
    refine awp_loop (fun m t H' => ∃ (c : Nat) (u : Value), m = y.length - c ∧ c ≤ y.length ∧ t 21 = .int .i64 c ∧ t 20 = .int .i64 y.length ∧ t 19 = w ∧ t 2 = .pointer (some ⟨pi, 0, none⟩) ∧ t 3 = .pointer (some ⟨pi + 1, 0, none⟩) ∧ t 4 = .pointer (some ⟨pi + 2, 0, none⟩) ∧ t 7 = .pointer (some ⟨p3, 0, none⟩) ∧
      Ow H H' [.row pi ⟨26, true, [.int .i64 q, v]⟩, .row (pi + 1) ⟨33, true, [w]⟩, .row (pi + 2) ⟨26, true, [.int .i64 0, .slice none 0 0]⟩, .row p3 ⟨26, true, [.int .i64 q, u]⟩, .sl 14 69 u c (ints (reoL l (y.take c)))]) y.length ?_ ?_
    · refine ⟨0, .slice none 0 0, by omega, by omega, ?_⟩
      try simp (disch := first | omega | (simp only [L3] <;> omega)) only [Sall,evalOp,init,binA_s,binE,binI,unE,convE,okNil,builtE,gv,TD.isAgg,resV,↓reduceIte,Nat.reduceEqDiff,reduceCtorEq,Nat.reduceAdd,Nat.reduceMul,Nat.reduceLeDiff,quietOp,blindOp,Int.reduceEq,Int.reduceLT,Int.reduceLE,Nat.reduceLT,tiA,tiXA, Int.natCast_zero]
      exact o2
    · rintro m t H' ⟨c, u, hm, hcn, h21, h20, h19, h2, h3, h4, h7, o3⟩
      try simp (disch := first | omega | (simp only [L3] <;> omega)) only [Sall,evalOp,init,binA_s,binE,binI,unE,convE,okNil,builtE,gv,TD.isAgg,resV,↓reduceIte,Nat.reduceEqDiff,reduceCtorEq,Nat.reduceAdd,Nat.reduceMul,Nat.reduceLeDiff,quietOp,blindOp,Int.reduceEq,Int.reduceLT,Int.reduceLE,Nat.reduceLT,tiA,tiXA, h21, h20]
      refine condC_dec (fun hh => ?_) (fun hh => ?_)
      · have hv' : Rd 14 H' v k l := hv.same (o3.old hs)
        obtain ⟨i, o, uu, cc, r, rfl, hr, hc', hg, _⟩ := (hw.same (o3.old hs)).get (by omega)
        have g1 := hg c (by omega)
        have hx := hyr (y.getD c 0) (by rw [List.getD_eq_getElem?_getD, List.getElem?_eq_getElem (by omega)]; exact List.getElem_mem _)
        have htk : y.take (c + 1) = y.take c ++ [y.getD c 0] := by rw [List.take_add_one, List.getElem?_eq_getElem (by omega), List.getD_eq_getElem?_getD, List.getElem?_eq_getElem (by omega)]; rfl
        revert g1 hx htk
        generalize y.getD c 0 = x0
        intro g1 hx htk
        obtain ⟨x, rfl⟩ : ∃ x : Nat, x0 = x := ⟨x0.toNat, by omega⟩
        obtain ⟨i2, o2, u2, c2, r2, rfl, hr2, hc2, _, hg2⟩ := hv'.get (by omega)
        have hrl : (rnd l x).length = 14 := rnd_length l x k hv.1 (by omega)
        have hrl2 : ((l.drop (x * 14)).take 14).length = 14 := hrl
        have hsg := hg2 (x * 14) 14 (by omega)
        have hrd : ints ((l.drop (x * 14)).take 14) = ints (rnd l x) := rfl
        have hre := reoL_snoc l (y.take c) (x : Int)
        rw [Int.toNat_natCast] at hre
        have ou := o3.one 4 rfl
        have q0 := (o3.rowAt 0 rfl).1
        have q3 := (o3.rowAt 3 rfl).1
        try simp (disch := first | omega | (simp only [L3] <;> omega)) only [Sall,evalOp,init,binA_s,binE,binI,unE,convE,okNil,builtE,gv,TD.isAgg,resV,↓reduceIte,Nat.reduceEqDiff,reduceCtorEq,Nat.reduceAdd,Nat.reduceMul,Nat.reduceLeDiff,quietOp,blindOp,Int.reduceEq,Int.reduceLT,Int.reduceLE,Nat.reduceLT,tiA,tiXA, h21, h20, h19, h2, h3, h4, h7, hr, g1]
        (repeat refine And.intro (by omega) ?_)
        refine draw_id (by kernel_rfl) (by kernel_rfl) ?_
        try simp (disch := first | omega | (simp only [L3] <;> omega)) only [Sall,evalOp,init,binA_s,binE,binI,unE,convE,okNil,builtE,gv,TD.isAgg,resV,↓reduceIte,Nat.reduceEqDiff,reduceCtorEq,Nat.reduceAdd,Nat.reduceMul,Nat.reduceLeDiff,quietOp,blindOp,Int.reduceEq,Int.reduceLT,Int.reduceLE,Nat.reduceLT,tiA,tiXA, h21, h20, h19, h2, h3, h4, h7, q0, q3, ou, hr, g1, hr2, hsg, hrd, hrl, hrl2, ints_length, slCells, zeros_one]
        (repeat refine And.intro (by omega) ?_)
        refine ⟨.inr (.inr (o3.sc.le _)), ?_⟩
        refine (o3.tmp ⟨69, true, ints (rnd l x)⟩).app 4 (c := 1) (ms := ints (rnd l x)) rfl rfl (by omega) (by rw [ints_length, hrl]) (by omega) (by decide) (by omega) ?_
        intro v' H3 n3 o4
        rw [ints_append, ← hre, ← htk] at o4
        have q3' := (o4.rowAt 3 rfl).1
        have ou' := o4.one 4 rfl
        have o5 := o4.putRow 3 rfl (cs' := [.int .i64 q, v'])
        refine ⟨.inr (.inl (by kernel_rfl)), ?_⟩
        try simp (disch := first | omega | (simp only [L3] <;> omega)) only [Sall,evalOp,init,binA_s,binE,binI,unE,convE,okNil,builtE,gv,TD.isAgg,resV,↓reduceIte,Nat.reduceEqDiff,reduceCtorEq,Nat.reduceAdd,Nat.reduceMul,Nat.reduceLeDiff,quietOp,blindOp,Int.reduceEq,Int.reduceLT,Int.reduceLE,Nat.reduceLT,tiA,tiXA, h21, h20, h19, h2, h3, h4, h7, q3', ou', w64]
        exact ⟨.inr (.inl (by kernel_rfl)), y.length - (c + 1), by omega, c + 1, _, rfl, by omega, by omega, o5⟩
      · have hck : c = y.length := by omega
        subst hck
        rw [List.take_length] at o3
        have q3 := (o3.rowAt 3 rfl).1
        have q2 := (o3.rowAt 2 rfl).1
        have ou := o3.one 4 rfl
        have o4 := o3.putRow 2 rfl (cs' := [.int .i64 q, u])
        try simp (disch := first | omega | (simp only [L3] <;> omega)) only [Sall,evalOp,init,binA_s,binE,binI,unE,convE,okNil,builtE,gv,TD.isAgg,resV,↓reduceIte,Nat.reduceEqDiff,reduceCtorEq,Nat.reduceAdd,Nat.reduceMul,Nat.reduceLeDiff,quietOp,blindOp,Int.reduceEq,Int.reduceLT,Int.reduceLE,Nat.reduceLT,tiA,tiXA, h4, h7, q3, q2, ou]
        exact ⟨q, u, _, _, rfl, fun _ => ⟨rfl, hyl, rfl⟩, o4.only 4 rfl⟩
  · have c0 : (codeS q k l (ordB k y) != 0) = true := bne_iff_ne.2 hc0
    have o2 := (o1.putRow 2 rfl (cs' := [.int .i64 0, .slice none 0 0])).addNil 14 69
    try simp (disch := first | omega | (simp only [L3] <;> omega)) only [Sall,evalOp,init,binA_s,binE,binI,unE,convE,okNil,builtE,gv,TD.isAgg,resV,↓reduceIte,Nat.reduceEqDiff,reduceCtorEq,Nat.reduceAdd,Nat.reduceMul,Nat.reduceLeDiff,quietOp,blindOp,Int.reduceEq,Int.reduceLT,Int.reduceLE,Nat.reduceLT,tiA,tiXA, c0, g2]
    refine ⟨0, .slice none 0 0, 0, [], rfl, fun h => absurd h hc0, ?_⟩
    exact o2.only 3 rfl
end Go.Proofs.YtpienljnoaendaaGreat.A
end

section
namespace Go.Abs
def sumN (N : Nat) (f : Nat → Nat) : Nat := ((List.range N).map f).sum
def keyC {α : Type} (k : α → Nat) (P : List α) (i : Nat) : Nat := (P.filter fun p => k p == i).length
structure Con (n G : Nat) (pr : Nat → Nat × Nat) (room0 room : Nat → Nat) (P : List (Nat × Nat)) : Prop where
  team : ∀ b, b < n → keyC Prod.snd P b + room b = room0 b
  pt : ∀ p ∈ P, p.1 < G ∧ p.2 < n ∧ (p.2 = (pr p.1).1 ∨ p.2 = (pr p.1).2)
  two : ∀ g, g < G → keyC Prod.fst P g ≤ 2
end Go.Abs
end

section
namespace Go.Abs
theorem gset_eq {α : Type} (l : List α) (i : Nat) (x d : α) (h : i < l.length) : (l.set i x).getD i d = x := by simp [List.getD_eq_getElem?_getD, h]
theorem gset_ne {α : Type} (l : List α) (i j : Nat) (x d : α) (h : i ≠ j) : (l.set i x).getD j d = l.getD j d := by simp [List.getD_eq_getElem?_getD, List.getElem?_set, h]
structure GS where
  gv : List Int
  rm : List Int
  mt : List Bool
structure GOk (n N : Nat) (s : GS) : Prop where
  gl : s.gv.length = N
  rl : s.rm.length = n
  ml : s.mt.length = n
  gr : ∀ j, j < N → s.gv.getD j 0 = -1 ∨ ∃ c : Nat, c < n ∧ s.gv.getD j 0 = (c : Int)
  rr : ∀ c, c < n → 0 ≤ s.rm.getD c 0
def idle (s : GS) (j : Nat) : Prop := s.gv.getD j 0 = -1 ∨ ∃ c : Nat, s.gv.getD j 0 = (c : Int) ∧ s.mt.getD c false = true
def both (tm : Nat → Nat → Nat) (mt : List Bool) (j : Nat) : Prop := mt.getD (tm j 0) false = true ∧ mt.getD (tm j 1) false = true
structure GRes (tm : Nat → Nat → Nat) (n N i : Nat) (s : GS) (r : Bool × GS) : Prop where
  ok : GOk n N r.2
  mono : ∀ c, s.mt.getD c false = true → r.2.mt.getD c false = true
  frame : ∀ j, j ≠ i → idle s j → r.2.gv.getD j 0 = s.gv.getD j 0
  no : r.1 = false → r.2.gv = s.gv ∧ r.2.rm = s.rm ∧ both tm r.2.mt i ∧ ∀ c, c < n → r.2.mt.getD c false = true → s.mt.getD c false = false → s.rm.getD c 0 = 0 ∧ ∀ j, j < N → s.gv.getD j 0 = (c : Int) → both tm r.2.mt j
  yes : r.1 = true → (∃ k, k < 2 ∧ r.2.gv.getD i 0 = (tm i k : Int)) ∧ (∀ j, j < N → j ≠ i → r.2.gv.getD j 0 = s.gv.getD j 0 ∨ ∃ k, k < 2 ∧ r.2.gv.getD j 0 = (tm j k : Int)) ∧ (∀ j, j < N → j ≠ i → s.gv.getD j 0 ≠ -1 → r.2.gv.getD j 0 ≠ -1) ∧
    ∀ c : Nat, c < n → (r.2.gv.count (c : Int) : Int) + r.2.rm.getD c 0 + (if s.gv.getD i 0 == (c : Int) then 1 else 0) = (s.gv.count (c : Int) : Int) + s.rm.getD c 0
structure JRes (tm : Nat → Nat → Nat) (n N i b : Nat) (js : List Nat) (s : GS) (r : Bool × GS) : Prop where
  ok : GOk n N r.2
  mono : ∀ c, s.mt.getD c false = true → r.2.mt.getD c false = true
  frame : ∀ j, j ≠ i → s.gv.getD j 0 ≠ (b : Int) → idle s j → r.2.gv.getD j 0 = s.gv.getD j 0
  no : r.1 = false → r.2.gv = s.gv ∧ r.2.rm = s.rm ∧ (∀ j ∈ js, s.gv.getD j 0 = (b : Int) → both tm r.2.mt j) ∧ ∀ c, c < n → r.2.mt.getD c false = true → s.mt.getD c false = false → s.rm.getD c 0 = 0 ∧ ∀ j, j < N → s.gv.getD j 0 = (c : Int) → both tm r.2.mt j
  yes : r.1 = true → r.2.gv.getD i 0 = (b : Int) ∧ (∀ j, j < N → j ≠ i → r.2.gv.getD j 0 = s.gv.getD j 0 ∨ ∃ k, k < 2 ∧ r.2.gv.getD j 0 = (tm j k : Int)) ∧ (∀ j, j < N → j ≠ i → s.gv.getD j 0 ≠ -1 → r.2.gv.getD j 0 ≠ -1) ∧
    ∀ c : Nat, c < n → (r.2.gv.count (c : Int) : Int) + r.2.rm.getD c 0 + (if s.gv.getD i 0 == (c : Int) then 1 else 0) = (s.gv.count (c : Int) : Int) + s.rm.getD c 0
end Go.Abs
end

section
namespace Go.Abs
structure AInv (tm : Nat → Nat → Nat) (n N : Nat) (room0 : Nat → Nat) (a : Nat) (gv rm : List Int) : Prop where
  ok : ∀ mt : List Bool, mt.length = n → GOk n N ⟨gv, rm, mt⟩
  own : ∀ j, j < N → gv.getD j 0 = -1 ∨ ∃ k, k < 2 ∧ gv.getD j 0 = (tm j k : Int)
  bal : ∀ c, c < n → (gv.count (c : Int) : Int) + rm.getD c 0 = room0 c
  done : ∀ j, j < a → gv.getD j 0 ≠ -1
  todo : ∀ j, a ≤ j → j < N → gv.getD j 0 = -1
end Go.Abs
end

section
namespace Go.Abs
structure HS where
  ow : List (List Int)
  rm : List Int
  mt : List Bool
def cntO (G : Nat) (ow : List (List Int)) (c : Nat) : Nat := sumN G fun g => (ow.getD g []).count (c : Int)
structure HOk (n G : Nat) (s : HS) : Prop where
  ol : s.ow.length = G
  rl : s.rm.length = n
  ml : s.mt.length = n
  er : ∀ g x, x ∈ s.ow.getD g [] → ∃ c : Nat, c < n ∧ x = (c : Int)
  rr : ∀ c, c < n → 0 ≤ s.rm.getD c 0
structure HRes (tm : Nat → Nat → Nat) (n G i : Nat) (s : HS) (r : Bool × HS) : Prop where
  ok : HOk n G r.2
  mono : ∀ c, s.mt.getD c false = true → r.2.mt.getD c false = true
  dec : ∀ c, r.2.rm.getD c 0 ≤ s.rm.getD c 0
  frame : ∀ g c, s.mt.getD c false = true → (r.2.ow.getD g []).count (c : Int) = (s.ow.getD g []).count (c : Int)
  no : r.1 = false → r.2.ow = s.ow ∧ r.2.rm = s.rm ∧ both tm r.2.mt i ∧ ∀ c, c < n → r.2.mt.getD c false = true → s.mt.getD c false = false → s.rm.getD c 0 = 0 ∧ ∀ g, (c : Int) ∈ s.ow.getD g [] → both tm r.2.mt g
  yes : r.1 = true → (∀ g, (r.2.ow.getD g []).length = (s.ow.getD g []).length + if g = i then 1 else 0) ∧ (∀ g x, x ∈ r.2.ow.getD g [] → x ∈ s.ow.getD g [] ∨ ∃ k, k < 2 ∧ x = (tm g k : Int)) ∧
    ∀ c, c < n → (cntO G r.2.ow c : Int) + r.2.rm.getD c 0 = (cntO G s.ow c : Int) + s.rm.getD c 0
structure HJRes (tm : Nat → Nat → Nat) (n G i b : Nat) (gs : List Nat) (s : HS) (r : Bool × HS) : Prop where
  ok : HOk n G r.2
  mono : ∀ c, s.mt.getD c false = true → r.2.mt.getD c false = true
  dec : ∀ c, r.2.rm.getD c 0 ≤ s.rm.getD c 0
  frame : ∀ g c, c ≠ b → s.mt.getD c false = true → (r.2.ow.getD g []).count (c : Int) = (s.ow.getD g []).count (c : Int)
  no : r.1 = false → r.2.ow = s.ow ∧ r.2.rm = s.rm ∧ (∀ g ∈ gs, g ≠ i → (b : Int) ∈ s.ow.getD g [] → both tm r.2.mt g) ∧ ∀ c, c < n → r.2.mt.getD c false = true → s.mt.getD c false = false → s.rm.getD c 0 = 0 ∧ ∀ g, (c : Int) ∈ s.ow.getD g [] → both tm r.2.mt g
  yes : r.1 = true → (∀ g, (r.2.ow.getD g []).length = (s.ow.getD g []).length + if g = i then 1 else 0) ∧ (∀ g x, x ∈ r.2.ow.getD g [] → x ∈ s.ow.getD g [] ∨ (∃ k, k < 2 ∧ x = (tm g k : Int)) ∨ (g = i ∧ x = (b : Int))) ∧
    ∀ c, c < n → (cntO G r.2.ow c : Int) + r.2.rm.getD c 0 = (cntO G s.ow c : Int) + s.rm.getD c 0
structure HInv (tm : Nat → Nat → Nat) (n G : Nat) (room0 : Nat → Nat) (a : Nat) (ow : List (List Int)) (rm : List Int) : Prop where
  ok : ∀ mt : List Bool, mt.length = n → HOk n G ⟨ow, rm, mt⟩
  own : ∀ g x, x ∈ ow.getD g [] → ∃ k, k < 2 ∧ x = (tm g k : Int)
  bal : ∀ c, c < n → (cntO G ow c : Int) + rm.getD c 0 = room0 c
  len : ∀ g, g < G → (ow.getD g []).length = a - 2 * g - (a - 2 * g - 2)
end Go.Abs
end

section
namespace Go.Abs
structure GmOk (n : Nat) (B : Nat) (st : List Int × List (List Int)) : Prop where
  len : st.1.length = n
  bnd : ∀ j, 0 ≤ st.1.getD j 0 ∧ st.1.getD j 0 ≤ B
  few : st.2.length ≤ B
  two : ∀ p ∈ st.2, ∃ x y : Nat, x < n ∧ y < n ∧ p = [(x : Int), (y : Int)]
theorem GmOk.mono {n B B' : Nat} {st : List Int × List (List Int)} (h : GmOk n B st) (hB : B ≤ B') : GmOk n B' st :=
  ⟨h.len, fun j => by have := h.bnd j; omega, Nat.le_trans h.few hB, h.two⟩
end Go.Abs
end

section
namespace Go.Abs
/-! Sums of points. -/
theorem set_sum (z : Int) : ∀ (l : List Int) (a : Nat), a < l.length → (l.set a (l.getD a 0 + z)).sum = l.sum + z
  | [], a, h => by simp at h
  | x :: l, 0, _ => by
    simp only [List.set_cons_zero, List.sum_cons]
    show x + z + l.sum = _
    omega
  | x :: l, a + 1, h => by
    have ih := set_sum z l a (by simpa using h)
    simp only [List.set_cons_succ, List.sum_cons]
    rw [show (x :: l).getD (a + 1) 0 = l.getD a 0 from rfl, ih]
    omega
/-! Rankings fall. -/
end Go.Abs
end

section
namespace Go.Abs
end Go.Abs
end

section
namespace Go.Abs
/-! ### Rounds found by matching -/
structure MInv (n : Nat) (mt : Nat → Nat → Bool) (now : List Int) (a : Nat) : Prop where
  ok : NowOk n now
  inv : ∀ j, j < n → now.getD (now.getD j 0).toNat 0 = (j : Int)
  met : ∀ j, j < a → j < n → now.getD j 0 ≠ (j : Int)
  may : ∀ i j : Nat, i < j → j < n → now.getD i 0 = (j : Int) → mt i j = false
structure NextF (n : Nat) (meet : Nat → Nat → Bool) (r : List Int) : Prop where
  ok : roundB n r = true
  no : ∀ p, p < n → r.getD p 0 ≠ (p : Int)
  may : ∀ p, p < n → meet p (r.getD p 0).toNat = false
/-! ### Points of a team, round by round -/
/-! ### Points of two teams -/
end Go.Abs
end

section
namespace Go.Abs
end Go.Abs
end

section
namespace Go.Abs
/-! Orders keep round robins. -/
theorem incR_comm (r : List Int) (b c : Int) : incR (incR r b) c = incR (incR r c) b := by
  unfold incR
  by_cases e : b.toNat = c.toNat
  · rw [e]
  · rw [gset_ne _ _ _ _ _ (fun h => e h.symm), gset_ne _ _ _ _ _ (fun h => e h), List.set_comm _ _ e]
theorem rowStep_comm (l : List Int) (a : Nat) (s : List Int) (i j : Nat) : rowStep l a (rowStep l a s i) j = rowStep l a (rowStep l a s j) i := by
  unfold rowStep
  by_cases h1 : (rnd l i).getD a 0 = (a : Int) <;> by_cases h2 : (rnd l j).getD a 0 = (a : Int) <;> simp only [h1, h2, if_true, if_false]
  exact incR_comm _ _ _
theorem order_map {k : Nat} {y : List Int} (h : ordB k y = true) : ((List.range k).map fun i => (y.getD i 0).toNat).Perm (List.range k) := by
  unfold ordB at h
  rw [Bool.and_eq_true, decide_eq_true_iff, decide_eq_true_iff, sortedL_seq] at h
  obtain ⟨hl, hp⟩ := h
  have h2 := hp.map Int.toNat
  have e1 : (seqL 0 k).map Int.toNat = List.range k := by
    unfold seqL
    rw [List.map_map]
    conv => rhs; rw [← List.map_id (List.range k)]
    apply List.map_congr_left
    intro a _
    show (0 + (a : Int)).toNat = a
    omega
  have e2 : ((List.range k).map fun i => (y.getD i 0).toNat) = y.map Int.toNat := by
    apply List.ext_getElem?
    intro i
    rw [List.getElem?_map, List.getElem?_map]
    by_cases hi : i < k
    · rw [List.getElem?_range hi, Option.map_some, List.getD_eq_getElem?_getD, List.getElem?_eq_getElem (by omega)]; rfl
    · rw [List.getElem?_eq_none (by simpa using hi), List.getElem?_eq_none (by omega)]; rfl
  rw [e2, ← e1]
  exact h2
theorem meetM_reo {n k : Nat} {l y : List Int} (hl : l.length = k * 14) (h : ordB k y = true) : meetM n (reoL l y) k = meetM n l k := by
  obtain ⟨h1, h2, h3⟩ := (ordB_iff k y).1 h
  unfold meetM
  apply List.map_congr_left
  intro a _
  unfold rowM
  have e : (List.range k).foldl (rowStep (reoL l y) a) (List.replicate n 0) = ((List.range k).map fun i => (y.getD i 0).toNat).foldl (rowStep l a) (List.replicate n 0) := by
    rw [List.foldl_map]
    have key : ∀ (L : List Nat) (s : List Int), (∀ i ∈ L, i < k) → L.foldl (rowStep (reoL l y) a) s = L.foldl (fun s i => rowStep l a s (y.getD i 0).toNat) s := by
      intro L
      induction L with
      | nil => intro s _; rfl
      | cons i L ih =>
        intro s hL
        rw [List.foldl_cons, List.foldl_cons, ih _ fun j hj => hL j (List.mem_cons_of_mem _ hj)]
        congr 1
        unfold rowStep
        rw [rnd_reoL hl h2 i (by have := hL i List.mem_cons_self; omega)]
    exact key _ _ fun i hi => by simpa using hi
  rw [e]
  exact (order_map h).foldl_eq' (fun x _ y _ z => rowStep_comm l a z x y) _
theorem robinB_reo {n k : Nat} {l y : List Int} (hl : l.length = k * 14) (h : ordB k y = true) : robinB n k (reoL l y) = robinB n k l := by
  unfold robinB
  rw [meetM_reo hl h]
theorem codeC_reo {q : Int} {k : Nat} {l y : List Int} (hl : l.length = k * 14) (h : ordB k y = true) (hc : codeC q k l = 0) : codeC q k (reoL l y) = 0 := by
  obtain ⟨hs, hk⟩ := codeC_rounds hc
  obtain ⟨h1, h2, h3⟩ := (ordB_iff k y).1 h
  have hs2 := reoL_ok hs hl h2 (by have := (schedB_at hs).2.1; omega)
  rw [h1] at hs2
  unfold codeC at hc ⊢
  rw [if_pos hs] at hc
  rw [if_pos hs2, robinB_reo hl h]
  exact hc
/-! Orders. -/
theorem ordN_nodup {nums : List Int} : ∀ (f : Nat) (y z : List Int), y.Nodup → z ∈ ordN nums f y → z.Nodup
  | 0, y, z, hy, h => by
    simp only [ordN, List.mem_singleton] at h
    subst h; exact hy
  | f + 1, y, z, hy, h => by
    have e : ordN nums (f + 1) y = nums.flatMap fun x => if y.contains x = true then [] else ordN nums f (y ++ [x]) := rfl
    rw [e, List.mem_flatMap] at h
    obtain ⟨x, hx, h⟩ := h
    by_cases hc : y.contains x = true
    · rw [if_pos hc] at h; simp at h
    · rw [if_neg hc] at h
      exact ordN_nodup f _ z (nodup_snoc.2 ⟨hy, fun hm => hc (List.contains_iff_mem.2 hm)⟩) h
theorem ordN_has {nums : List Int} : ∀ (f : Nat) (y z : List Int), z.Nodup → (∀ x ∈ z, x ∈ nums) → z.length = y.length + f → (∃ w, z = y ++ w) → z ∈ ordN nums f y
  | 0, y, z, hz, hn, hl, ⟨w, hw⟩ => by
    subst hw
    rw [List.length_append] at hl
    have : w = [] := List.length_eq_zero_iff.1 (by omega)
    subst this
    simp [ordN]
  | f + 1, y, z, hz, hn, hl, ⟨w, hw⟩ => by
    have e : ordN nums (f + 1) y = nums.flatMap fun x => if y.contains x = true then [] else ordN nums f (y ++ [x]) := rfl
    rw [e, List.mem_flatMap]
    subst hw
    cases w with
    | nil => rw [List.append_nil] at hl; omega
    | cons x w =>
      refine ⟨x, hn x (by simp), ?_⟩
      have hnx : ¬ y.contains x = true := by
        intro hc
        have hm := List.contains_iff_mem.1 hc
        have := (List.nodup_append.1 hz).2.2 x hm x (by simp)
        exact this rfl
      rw [if_neg hnx]
      refine ordN_has f (y ++ [x]) _ hz hn (by simp at hl ⊢; omega) ⟨w, by simp⟩
theorem boL_ord {k : Nat} (hk : 1 ≤ k) {z : List Int} (hz : z ∈ boL k) : ordB k z = true := by
  obtain ⟨h1, h2⟩ := boL_mem hk hz
  exact (ordB_iff k z).2 ⟨h1, h2, ordN_nodup _ _ _ (by simp) hz⟩
theorem boL_id {k : Nat} (hk : 1 ≤ k) : seqL 0 k ∈ boL k := by
  refine ordN_has _ _ _ (seqL_nodup 0 k) (fun x hx => hx) (by rw [seqL_length]; simp; omega) ⟨(seqL 0 k).drop 1, ?_⟩
  obtain ⟨j, rfl⟩ : ∃ j, k = j + 1 := ⟨k - 1, by omega⟩
  unfold seqL
  rw [List.range_succ_eq_map, List.map_cons, List.drop_succ_cons, List.drop_zero]
  rfl
theorem reoL_id {k : Nat} {l : List Int} (hl : l.length = k * 14) : reoL l (seqL 0 k) = l := by
  have key : ∀ j, j ≤ k → reoL l (seqL 0 j) = l.take (j * 14) := by
    intro j
    induction j with
    | zero => intro _; simp [reoL, seqL]
    | succ j ih =>
      intro hj
      have e : seqL 0 (j + 1) = seqL 0 j ++ [(j : Int)] := by unfold seqL; rw [List.range_succ, List.map_append]; simp
      rw [e, reoL_snoc, ih (by omega), Int.toNat_natCast]
      unfold rnd
      rw [Nat.succ_mul, List.take_add]
  rw [key k (Nat.le_refl _), ← hl, List.take_length]
theorem costO_fold {n : Nat} {l : List Int} : ∀ (zs : List (List Int)) (s : List Int × Int), (0 ≤ s.2 ∧ s.2 = costO n l s.1) → (∀ z ∈ zs, 0 ≤ costO n l z) → (0 ≤ (zs.foldl (boStep n l) s).2 ∧ (zs.foldl (boStep n l) s).2 = costO n l (zs.foldl (boStep n l) s).1) ∧ (zs.foldl (boStep n l) s).2 ≤ s.2 ∧ ∀ z ∈ zs, (zs.foldl (boStep n l) s).2 ≤ costO n l z
  | [], s, hs, _ => ⟨hs, Int.le_refl _, fun z hz => by simp at hz⟩
  | z :: zs, s, hs, hz => by
    rw [List.foldl_cons]
    have hz0 := hz z List.mem_cons_self
    have hst : (0 ≤ (boStep n l s z).2 ∧ (boStep n l s z).2 = costO n l (boStep n l s z).1) ∧ (boStep n l s z).2 ≤ s.2 ∧ (boStep n l s z).2 ≤ costO n l z := by
      unfold boStep
      by_cases c : s.2 < 0 ∨ costO n l z < s.2
      · rw [if_pos c]
        refine ⟨⟨hz0, rfl⟩, ?_, Int.le_refl _⟩
        show costO n l z ≤ s.2
        rcases c with c | c <;> omega
      · rw [if_neg c]
        exact ⟨hs, Int.le_refl _, by omega⟩
    obtain ⟨g1, g2, g3⟩ := costO_fold zs (boStep n l s z) hst.1 fun w hw => hz w (List.mem_cons_of_mem _ hw)
    refine ⟨g1, by omega, fun w hw => ?_⟩
    rcases List.mem_cons.1 hw with rfl | hw
    · omega
    · exact g3 w hw
end Go.Abs
end

section
namespace Go.Abs
theorem list_at_map {M : List (List Int)} {y x : Nat} (hx : x < M.length) : (M.map fun r => r.getD y 0).getD x 0 = (M.getD x []).getD y 0 := by
  rw [List.getD_eq_getElem?_getD, List.getElem?_map, List.getElem?_eq_getElem hx, List.getD_eq_getElem?_getD (l := M), List.getElem?_eq_getElem hx]
  rfl
structure SmM (n c : Nat) (M : List (List Int)) : Prop where
  sq : SqM n M
  at_ : ∀ x y, 0 ≤ (M.getD x []).getD y 0 ∧ (M.getD x []).getD y 0 ≤ (c : Int)
theorem zeroM_at (n x y : Nat) : ((zeroM n).getD x []).getD y 0 = 0 := by
  have e : (zeroM n).getD x [] = if x < n then List.replicate n 0 else [] := by
    unfold zeroM
    rw [List.getD_eq_getElem?_getD, List.getElem?_replicate]
    split <;> rfl
  rw [e]
  by_cases hx : x < n
  · rw [if_pos hx, List.getD_eq_getElem?_getD, List.getElem?_replicate]
    split <;> rfl
  · rw [if_neg hx]; rfl
theorem SmM.zero (n : Nat) : SmM n 0 (zeroM n) := ⟨zeroM_sq n, fun x y => by rw [zeroM_at]; omega⟩
def rowS (M : List (List Int)) (x : Nat) : Int := (M.getD x []).sum
def colS (M : List (List Int)) (y : Nat) : Int := (M.map fun r => r.getD y 0).sum
theorem rep_sum (n : Nat) (x : Int) : (List.replicate n x).sum = n * x := by
  induction n with
  | zero => simp
  | succ n ih => rw [List.replicate_succ, List.sum_cons, ih]; push_cast; rw [Int.add_mul]; omega
theorem rowS_zero {n x : Nat} : rowS (zeroM n) x = 0 := by
  unfold rowS zeroM
  rw [List.getD_eq_getElem?_getD, List.getElem?_replicate]
  split
  · rw [Option.getD_some, rep_sum, Int.mul_zero]
  · rfl
theorem colS_zero {n y : Nat} : colS (zeroM n) y = 0 := by
  unfold colS
  have : ((zeroM n).map fun r => r.getD y 0) = List.replicate n 0 := by
    unfold zeroM
    rw [List.map_replicate]
    congr 1
    rw [List.getD_eq_getElem?_getD, List.getElem?_replicate]
    split <;> rfl
  rw [this, rep_sum, Int.mul_zero]
theorem incM_row {n c a b x : Nat} {M : List (List Int)} (h : SmM n c M) (ha : a < n) (hb : b < n) (hc : c ≤ 1000000) : (incM M a b).getD x [] = if x = a then (M.getD a []).set b ((M.getD a []).getD b 0 + 1) else M.getD x [] := by
  unfold incM
  rw [Int.toNat_natCast]
  by_cases e : x = a
  · subst e
    rw [if_pos rfl, gset_eq _ _ _ _ (by rw [h.sq.1]; exact ha)]
    unfold incR
    rw [Int.toNat_natCast, w64 (by have := h.at_ x b; omega)]
  · rw [if_neg e, gset_ne _ _ _ _ _ (fun k => e k.symm)]
theorem SmM.inc {n c a b : Nat} {M : List (List Int)} (h : SmM n c M) (ha : a < n) (hb : b < n) (hc : c ≤ 1000000) : SmM n (c + 1) (incM M a b) := by
  refine ⟨h.sq.inc (by rw [Int.toNat_natCast]; exact ha), fun x y => ?_⟩
  rw [incM_row h ha hb hc]
  by_cases e : x = a
  · subst e
    rw [if_pos rfl]
    by_cases e2 : b = y
    · subst e2
      rw [gset_eq _ _ _ _ (by rw [h.sq.2 x ha]; exact hb)]
      have := h.at_ x b; omega
    · rw [gset_ne _ _ _ _ _ e2]
      have := h.at_ x y; omega
  · rw [if_neg e]
    have := h.at_ x y; omega
theorem rowS_inc {n c a b x : Nat} {M : List (List Int)} (h : SmM n c M) (ha : a < n) (hb : b < n) (hc : c ≤ 1000000) : rowS (incM M a b) x = rowS M x + if x = a then 1 else 0 := by
  unfold rowS
  rw [incM_row h ha hb hc]
  by_cases e : x = a
  · subst e
    rw [if_pos rfl, if_pos rfl, set_sum 1 _ _ (by rw [h.sq.2 x ha]; exact hb)]
  · rw [if_neg e, if_neg e, Int.add_zero]
theorem colS_inc {n c a b y : Nat} {M : List (List Int)} (h : SmM n c M) (ha : a < n) (hb : b < n) (hc : c ≤ 1000000) : colS (incM M a b) y = colS M y + if y = b then 1 else 0 := by
  have hml : a < (M.map fun r => r.getD y 0).length := by rw [List.length_map, h.sq.1]; exact ha
  have e : ((incM M a b).map fun r => r.getD y 0) = (M.map fun r => r.getD y 0).set a ((M.map fun r => r.getD y 0).getD a 0 + if y = b then 1 else 0) := by
    rw [list_at_map (by rw [h.sq.1]; exact ha)]
    unfold incM
    rw [Int.toNat_natCast, List.map_set]
    congr 1
    unfold incR
    rw [Int.toNat_natCast, w64 (by have := h.at_ a b; omega)]
    by_cases e2 : y = b
    · subst e2
      rw [gset_eq _ _ _ _ (by rw [h.sq.2 a ha]; exact hb), if_pos rfl]
    · rw [gset_ne _ _ _ _ _ (fun k => e2 k.symm), if_neg e2, Int.add_zero]
  unfold colS
  rw [e, set_sum _ _ _ hml]
theorem carT_sums {n k : Nat} {l : List Int} {i c : Nat} {M : List (List Int)} (h : SmM n c M) (hi : i < k) (hr : ∀ i, i < k → roundB n (rnd l i) = true) : ∀ t, t ≤ n → c + t ≤ 1000000 →
    SmM n (c + t) (carT n k l i t M) ∧ (∀ x, x < n → rowS (carT n k l i t M) x = rowS M x + if ((rnd l i).getD x 0).toNat < t then 1 else 0) ∧ (∀ y, y < n → colS (carT n k l i t M) y = colS M y + if ((rnd l ((i + 1) % k)).getD y 0).toNat < t then 1 else 0)
  | 0, _, _ => ⟨h, fun x _ => by rw [carT_zero, if_neg (by omega), Int.add_zero], fun y _ => by rw [carT_zero, if_neg (by omega), Int.add_zero]⟩
  | t + 1, ht, hct => by
    obtain ⟨g1, g2, g3⟩ := carT_sums h hi hr t (by omega) (by omega)
    obtain ⟨_, a1, a2, a3⟩ := roundB_at (hr i hi) (a := t) (by omega)
    obtain ⟨_, b1, b2, b3⟩ := roundB_at (hr ((i + 1) % k) (Nat.mod_lt _ (by omega))) (a := t) (by omega)
    obtain ⟨a, ea⟩ : ∃ a : Nat, (rnd l i).getD t 0 = a := ⟨((rnd l i).getD t 0).toNat, by omega⟩
    obtain ⟨b, eb⟩ : ∃ b : Nat, (rnd l ((i + 1) % k)).getD t 0 = b := ⟨((rnd l ((i + 1) % k)).getD t 0).toNat, by omega⟩
    rw [ea, Int.toNat_natCast] at a3
    rw [eb, Int.toNat_natCast] at b3
    rw [ea] at a2
    rw [eb] at b2
    have ha : a < n := by omega
    have hb : b < n := by omega
    refine ⟨?_, fun x hx => ?_, fun y hy => ?_⟩
    · rw [carT_succ, ea, eb]
      exact g1.inc ha hb (by omega)
    · rw [carT_succ, ea, eb, rowS_inc g1 ha hb (by omega), g2 x hx]
      obtain ⟨_, c1, c2, c3⟩ := roundB_at (hr i hi) (a := x) (by omega)
      by_cases e : x = a
      · subst e
        rw [a3, Int.toNat_natCast, if_neg (by omega), if_pos rfl, if_pos (by omega)]; omega
      · have hne : ¬ ((rnd l i).getD x 0).toNat = t := by
          intro e2
          rw [e2, ea] at c3
          omega
        rw [if_neg e]
        by_cases e3 : ((rnd l i).getD x 0).toNat < t
        · rw [if_pos e3, if_pos (by omega)]; omega
        · rw [if_neg e3, if_neg (by omega)]; omega
    · rw [carT_succ, ea, eb, colS_inc g1 ha hb (by omega), g3 y hy]
      obtain ⟨_, c1, c2, c3⟩ := roundB_at (hr ((i + 1) % k) (Nat.mod_lt _ (by omega))) (a := y) (by omega)
      by_cases e : y = b
      · subst e
        rw [b3, Int.toNat_natCast, if_neg (by omega), if_pos rfl, if_pos (by omega)]; omega
      · have hne : ¬ ((rnd l ((i + 1) % k)).getD y 0).toNat = t := by
          intro e2
          rw [e2, eb] at c3
          omega
        rw [if_neg e]
        by_cases e3 : ((rnd l ((i + 1) % k)).getD y 0).toNat < t
        · rw [if_pos e3, if_pos (by omega)]; omega
        · rw [if_neg e3, if_neg (by omega)]; omega
theorem carM_sums {n k : Nat} {l : List Int} (hn : n ≤ 14) (hr : ∀ i, i < k → roundB n (rnd l i) = true) : ∀ i, i ≤ k → i ≤ 40 →
    SmM n (i * n) (carM n k l i) ∧ (∀ x, x < n → rowS (carM n k l i) x = i) ∧ (∀ y, y < n → colS (carM n k l i) y = i)
  | 0, _, _ => by
    rw [Nat.zero_mul, carM_zero]
    exact ⟨SmM.zero n, fun x _ => rowS_zero, fun y _ => colS_zero⟩
  | i + 1, hi, h40 => by
    obtain ⟨g1, g2, g3⟩ := carM_sums hn hr i (by omega) (by omega)
    have hin : i * n ≤ 40 * 14 := Nat.mul_le_mul (by omega) hn
    obtain ⟨f1, f2, f3⟩ := carT_sums g1 (show i < k by omega) hr n (Nat.le_refl _) (by omega)
    rw [carM_succ, Nat.succ_mul]
    refine ⟨f1, fun x hx => ?_, fun y hy => ?_⟩
    · obtain ⟨_, c1, c2, c3⟩ := roundB_at (hr i (by omega)) (a := x) (by omega)
      rw [f2 x hx, g2 x hx, if_pos (by omega)]; push_cast; omega
    · obtain ⟨_, c1, c2, c3⟩ := roundB_at (hr ((i + 1) % k) (Nat.mod_lt _ (by omega))) (a := y) (by omega)
      rw [f3 y hy, g3 y hy, if_pos (by omega)]; push_cast; omega
theorem codeC_even {q : Int} {k : Nat} {l : List Int} (h : codeC q k l = 0) : schedB q k l = true ∧ robinB q.toNat k l = true ∧ (k : Int) = q - 1 ∧ 2 ≤ q ∧ q ≤ 14 ∧ 1 ≤ k ∧ k ≤ 40 := by
  obtain ⟨hs, hk⟩ := codeC_rounds h
  obtain ⟨h2, h40, _⟩ := schedB_at hs
  unfold codeC at h
  rw [if_pos hs] at h
  by_cases h3 : (decide (q.toNat % 2 = 1) || !robinB q.toNat k l) = true
  · rw [if_pos h3] at h; omega
  · rw [Bool.or_eq_true, decide_eq_true_iff, Bool.not_eq_true'] at h3
    have h4 : robinB q.toNat k l = true := by
      cases hr : robinB q.toNat k l with
      | true => rfl
      | false => exact absurd (.inr hr) h3
    have h5 := h4
    unfold robinB at h5
    have h6 := of_decide_eq_true (Bool.and_eq_true_iff.1 h5).1
    have h7 : ¬ q.toNat % 2 = 1 := fun e => h3 (.inl e)
    exact ⟨hs, h4, by omega, h2.1, h2.2, hk, h40⟩
theorem car_sums {q : Int} {k : Nat} {l : List Int} (h : codeC q k l = 0) : SmM q.toNat (k * q.toNat) (carM q.toNat k l k) ∧ (∀ x, x < q.toNat → rowS (carM q.toNat k l k) x = q - 1) ∧ (∀ y, y < q.toNat → colS (carM q.toNat k l k) y = q - 1) := by
  obtain ⟨hs, hr, hk, h2, h14, h1, h40⟩ := codeC_even h
  obtain ⟨_, _, hb⟩ := schedB_at hs
  have hqn : ((q.toNat : Nat) : Int) = q := by omega
  have hb' : ∀ i, i < k → roundB (q.toNat : Int) (rnd l i) = true := by rw [hqn]; exact hb
  obtain ⟨g1, g2, g3⟩ := carM_sums (n := q.toNat) (by omega) hb' k (Nat.le_refl _) h40
  exact ⟨g1, fun x hx => by rw [g2 x hx]; exact hk, fun y hy => by rw [g3 y hy]; exact hk⟩
end Go.Abs
end

section
namespace Go.Abs
theorem costR_bd {row : List Int} {C : Nat} (hr : ∀ j, 0 ≤ row.getD j 0 * row.getD j 0 ∧ row.getD j 0 * row.getD j 0 ≤ (C : Int)) {s : Int} {S : Nat} (hs : 0 ≤ s ∧ s ≤ (S : Int)) : ∀ j, S + j * C ≤ 1000000000000 → 0 ≤ costR row s j ∧ costR row s j ≤ ((S + j * C : Nat) : Int)
  | 0, _ => by rw [costR_zero, Nat.zero_mul]; exact hs
  | j + 1, hb => by
    rw [Nat.succ_mul] at hb ⊢
    have ih := costR_bd hr hs j (by omega)
    rw [costR_succ]
    unfold sqStep
    have hx := hr j
    rw [w64 (n := row.getD j 0 * row.getD j 0) (by omega), w64 (by omega)]
    omega
theorem sq_bd {x : Int} {c : Nat} (h : 0 ≤ x ∧ x ≤ (c : Int)) : 0 ≤ x * x ∧ x * x ≤ ((c * c : Nat) : Int) := by
  refine ⟨Int.mul_nonneg h.1 h.1, ?_⟩
  push_cast
  exact Int.mul_le_mul h.2 h.2 h.1 (by omega)
theorem costM_bd {n c : Nat} {M : List (List Int)} (h : SmM n c M) (hc : c * c ≤ 1000000) (hn : n ≤ 14) : ∀ i, i ≤ n → 0 ≤ costM M i ∧ costM M i ≤ ((i * (n * (c * c)) : Nat) : Int)
  | 0, _ => by rw [costM_zero, Nat.zero_mul]; omega
  | i + 1, hi => by
    have ih := costM_bd h hc hn i (by omega)
    rw [costM_succ, h.sq.2 i (by omega), Nat.succ_mul]
    have h1 : n * (c * c) ≤ 14 * 1000000 := Nat.mul_le_mul hn hc
    have h2 : i * (n * (c * c)) ≤ 14 * (14 * 1000000) := Nat.mul_le_mul (by omega) h1
    exact costR_bd (fun j => sq_bd (h.at_ i j)) ih n (by omega)
theorem car_cost {q : Int} {k : Nat} {l : List Int} (h : codeC q k l = 0) : 0 ≤ costM (carM q.toNat k l k) q.toNat := by
  obtain ⟨g1, _, _⟩ := car_sums h
  obtain ⟨_, _, hk, h2, h14, h1, h40⟩ := codeC_even h
  have hk13 : k ≤ 13 := by omega
  have hc : k * q.toNat ≤ 13 * 14 := Nat.mul_le_mul hk13 (by omega)
  have hcc : k * q.toNat * (k * q.toNat) ≤ (13 * 14) * (13 * 14) := Nat.mul_le_mul hc hc
  exact (costM_bd g1 (by omega) (by omega) _ (Nat.le_refl _)).1
/-! The best order. -/
theorem bo_ok {q : Int} {k : Nat} {l : List Int} (hl : l.length = k * 14) (h : boC q k l = 0) :
    ordB k (boR q k l) = true ∧ codeC q k l = 0 ∧ codeC q k (reoL l (boR q k l)) = 0 ∧ costM (carM q.toNat k (reoL l (boR q k l)) k) q.toNat = boN q k l ∧ boN q k l ≤ costM (carM q.toNat k l k) q.toNat := by
  have hc : codeC q k l = 0 := by
    unfold boC at h
    by_cases hc : codeC q k l = 0
    · exact hc
    · rw [if_neg hc] at h; exact absurd h hc
  obtain ⟨hs, hr, hk, h2, h14, h1, h40⟩ := codeC_even hc
  have eR : boR q k l = (boFold q.toNat l (boL k)).1 := by unfold boR; rw [if_pos h]
  have eN : boN q k l = (boFold q.toNat l (boL k)).2 := by unfold boN; rw [if_pos h]
  have hcost : ∀ z ∈ boL k, 0 ≤ costO q.toNat l z := fun z hz => by
    unfold costO
    rw [(boL_mem h1 hz).1]
    exact car_cost (codeC_reo hl (boL_ord h1 hz) hc)
  have hmem := boFold_mem q.toNat l _ (boL_ne k h1)
  have hid := boL_id h1
  have hord := boL_ord h1 hmem
  have hlen := (boL_mem h1 hmem).1
  obtain ⟨z0, zs, ez⟩ : ∃ z0 zs, boL k = z0 :: zs := by
    cases hb : boL k with
    | nil => exact absurd hb (boL_ne k h1)
    | cons z0 zs => exact ⟨z0, zs, rfl⟩
  have hf : (boFold q.toNat l (boL k)).2 = costO q.toNat l (boFold q.toNat l (boL k)).1 ∧ ∀ z ∈ boL k, (boFold q.toNat l (boL k)).2 ≤ costO q.toNat l z := by
    rw [ez] at hcost ⊢
    rw [boFold_cons]
    have hz0 := hcost z0 List.mem_cons_self
    obtain ⟨g1, g2, g3⟩ := costO_fold (n := q.toNat) (l := l) zs (z0, costO q.toNat l z0) ⟨hz0, rfl⟩ fun z hz => hcost z (List.mem_cons_of_mem _ hz)
    refine ⟨g1.2, fun z hz => ?_⟩
    rcases List.mem_cons.1 hz with rfl | hz
    · exact g2
    · exact g3 z hz
  have hle := hf.2 _ hid
  unfold costO at hle
  rw [reoL_id hl, seqL_length] at hle
  have heq := hf.1
  unfold costO at heq
  rw [hlen] at heq
  rw [eR, eN]
  exact ⟨hord, hc, codeC_reo hl hord hc, heq.symm, hle⟩
/-! Balance. -/
theorem sum_ones : ∀ (r : List Int) (x : Nat), x < r.length → (∀ j, j < r.length → j ≠ x → r.getD j 0 = 1) → r.sum = (r.length : Int) - 1 + r.getD x 0
  | [], x, h, _ => by simp at h
  | a :: r, 0, _, h => by
    have hr : r = List.replicate r.length 1 := by
      refine List.eq_replicate_iff.2 ⟨rfl, fun b hb => ?_⟩
      obtain ⟨j, hj, rfl⟩ := List.mem_iff_getElem.1 hb
      have := h (j + 1) (by simp; omega) (by omega)
      rw [List.getD_eq_getElem?_getD, List.getElem?_cons_succ, List.getElem?_eq_getElem hj] at this
      exact this
    have hs : r.sum = r.length := by rw [hr, rep_sum, List.length_replicate]; omega
    rw [List.sum_cons, hs, List.length_cons]
    show a + _ = _ + a
    push_cast; omega
  | a :: r, x + 1, hx, h => by
    have ha : a = 1 := h 0 (by simp) (by omega)
    have ih := sum_ones r x (by simpa using hx) fun j hj hne => by
      have := h (j + 1) (by simp; omega) (by omega)
      rw [List.getD_eq_getElem?_getD, List.getElem?_cons_succ, ← List.getD_eq_getElem?_getD] at this
      exact this
    rw [List.sum_cons, ih, ha, List.length_cons]
    show 1 + (_ + r.getD x 0) = _ + r.getD x 0
    push_cast; omega
theorem costR_bin {row : List Int} (hr : ∀ j, row.getD j 0 = 0 ∨ row.getD j 0 = 1) {s : Int} (hs : 0 ≤ s ∧ s ≤ 1000000) : ∀ j, j ≤ row.length → j ≤ 1000 → costR row s j = s + (row.take j).sum ∧ 0 ≤ (row.take j).sum ∧ (row.take j).sum ≤ j
  | 0, _, _ => by rw [costR_zero]; simp
  | j + 1, h, hj => by
    obtain ⟨ih, i1, i2⟩ := costR_bin hr hs j (by omega) (by omega)
    rw [costR_succ, take_snoc row 0 j (by omega), List.sum_append, ih]
    unfold sqStep
    rcases hr j with e | e <;> rw [e]
    · rw [w64 (n := 0 * 0) (by omega), w64 (by omega)]
      simp only [List.sum_cons, List.sum_nil]; omega
    · rw [w64 (n := 1 * 1) (by omega), w64 (by omega)]
      simp only [List.sum_cons, List.sum_nil]; omega
theorem bal_cost {q : Int} {k : Nat} {l : List Int} (h : codeC q k l = 0) (hb : balB (carM q.toNat k l k) = true) : costM (carM q.toNat k l k) q.toNat = q * (q - 1) := by
  obtain ⟨g1, g2, _⟩ := car_sums h
  obtain ⟨_, _, hk, h2, h14, h1, h40⟩ := codeC_even h
  generalize carM q.toNat k l k = M at *
  obtain ⟨n, rfl⟩ : ∃ n : Nat, q = n := ⟨q.toNat, by omega⟩
  rw [Int.toNat_natCast] at *
  have hat : ∀ i, i < n → ∀ j, j < n → i ≠ j → (M.getD i []).getD j 0 = 1 := fun i hi j hj hij => by
    unfold balB at hb
    have h3 := List.all_eq_true.1 hb i (by rw [g1.sq.1]; simpa using hi)
    have h4 := List.all_eq_true.1 h3 j (by rw [g1.sq.2 i hi]; simpa using hj)
    unfold balAt at h4
    rw [decide_eq_false hij, Bool.false_or, beq_iff_eq] at h4
    exact h4
  have hdg : ∀ i, i < n → (M.getD i []).getD i 0 = 0 := fun i hi => by
    have h3 := sum_ones (M.getD i []) i (by rw [g1.sq.2 i hi]; exact hi) fun j hj hne => hat i hi j (by rw [g1.sq.2 i hi] at hj; exact hj) (fun e => hne e.symm)
    have h4 := g2 i hi
    unfold rowS at h4
    rw [h4, g1.sq.2 i hi] at h3
    omega
  have hbin : ∀ i, i < n → ∀ j, (M.getD i []).getD j 0 = 0 ∨ (M.getD i []).getD j 0 = 1 := fun i hi j => by
    by_cases hj : j < n
    · by_cases e : i = j
      · subst e; exact .inl (hdg i hi)
      · exact .inr (hat i hi j hj e)
    · left
      rw [List.getD_eq_getElem?_getD, List.getElem?_eq_none (by rw [g1.sq.2 i hi]; omega)]; rfl
  have key : ∀ i, i ≤ n → costM M i = (i : Int) * ((n : Int) - 1) := by
    intro i
    induction i with
    | zero => intro _; rw [costM_zero]; simp
    | succ i ih =>
      intro hi
      have ih := ih (by omega)
      have hbd : (0 : Int) ≤ (i : Int) * ((n : Int) - 1) ∧ (i : Int) * ((n : Int) - 1) ≤ 14 * 14 := ⟨Int.mul_nonneg (by omega) (by omega), Int.mul_le_mul (by omega) (by omega) (by omega) (by omega)⟩
      rw [costM_succ, ih, g1.sq.2 i (by omega)]
      obtain ⟨h3, _, _⟩ := costR_bin (hbin i (by omega)) (s := (i : Int) * ((n : Int) - 1)) (by omega) n (by rw [g1.sq.2 i (by omega)]; exact Nat.le_refl _) (by omega)
      have h4 := g2 i (by omega)
      unfold rowS at h4
      rw [h3, List.take_of_length_le (by rw [g1.sq.2 i (by omega)]; exact Nat.le_refl _), h4]
      push_cast
      rw [Int.add_mul]
      omega
  exact key n (Nat.le_refl _)
/-! Digits. -/
theorem dig_base : robinB 2 1 (digL 2 (seqL 1 1)) = true ∧ robinB 4 3 (digL 4 (seqL 1 3)) = true ∧ robinB 8 7 (digL 8 (seqL 1 7)) = true := by decide +kernel
theorem dig_reo {n m : Nat} {y : List Int} (hy : ∀ x ∈ y, 1 ≤ x ∧ x ≤ (m : Int)) : digL n y = reoL (digL n (seqL 1 m)) (dwnL y) := by
  unfold reoL dwnL
  rw [List.flatMap_map]
  unfold digL
  rw [List.flatMap_def, List.flatMap_def]
  congr 1
  apply List.map_congr_left
  intro x hx
  have h1 := hy x hx
  have h2 := rnd_digL n (seqL 1 m) (x - 1).toNat (by rw [seqL_length]; omega)
  have e : digL n (seqL 1 m) = (seqL 1 m).flatMap fun x => digS x n := rfl
  rw [e] at h2
  show digS x n = rnd _ (x - 1).toNat
  rw [h2]
  congr 1
  unfold seqL
  rw [List.getD_eq_getElem?_getD, List.getElem?_map, List.getElem?_range (by omega)]
  show x = 1 + (((x - 1).toNat : Nat) : Int)
  omega
theorem dig_ok {q : Int} {y : List Int} (h : digB q y = true) : (q = 2 ∨ q = 4 ∨ q = 8) ∧ (y.length : Int) = q - 1 ∧ (∀ x ∈ y, 1 ≤ x ∧ x ≤ q - 1) ∧ schedB q y.length (digL q.toNat y) = true ∧ robinB q.toNat y.length (digL q.toNat y) = true ∧ codeC q y.length (digL q.toNat y) = 0 := by
  unfold digB at h
  rw [Bool.and_eq_true] at h
  obtain ⟨h1, h2⟩ := h
  have hq : q = 2 ∨ q = 4 ∨ q = 8 := of_decide_eq_true h1
  have hs := of_decide_eq_true h2
  rw [sortedL_seq] at hs
  have hl := hs.length_eq
  rw [seqL_length] at hl
  have hr : ∀ x ∈ y, 1 ≤ x ∧ x ≤ ((q.toNat - 1 : Nat) : Int) := fun x hx => by have := (mem_seqL_iff 1 _ x).1 (hs.subset hx); omega
  have hord : ordB (q.toNat - 1) (dwnL y) = true := by rw [← digB_ord _ y hl]; exact h2
  have hsch : schedB q y.length (digL q.toNat y) = true := by
    have := digL_ok (n := q.toNat) (by rcases hq with rfl | rfl | rfl <;> simp) (order := y) (fun x hx => by have := hr x hx; omega) (by omega)
    rwa [show ((q.toNat : Nat) : Int) = q by omega] at this
  have hrob : robinB q.toNat y.length (digL q.toNat y) = true := by
    rw [dig_reo hr, hl, robinB_reo (by rw [digL_length, seqL_length]) hord]
    obtain ⟨b1, b2, b3⟩ := dig_base
    rcases hq with rfl | rfl | rfl
    · exact b1
    · exact b2
    · exact b3
  refine ⟨hq, by omega, fun x hx => by have := hr x hx; omega, hsch, hrob, ?_⟩
  unfold codeC
  rw [if_pos hsch, hrob]
  have : ¬ q.toNat % 2 = 1 := by rcases hq with rfl | rfl | rfl <;> decide
  rw [decide_eq_false this]
  rfl
theorem first_ok {q : Int} (h : fdC q = 0) : digB q (fdR q) = true ∧ balB (carM q.toNat (fdR q).length (digL q.toNat (fdR q)) (fdR q).length) = true := by
  have hd : isDig q = true := by
    unfold fdC at h
    by_cases hd : isDig q = true
    · exact hd
    · rw [if_neg hd] at h; omega
  unfold fdC at h
  rw [if_pos hd] at h
  unfold fdR
  rw [if_pos hd]
  cases hf : (digOrders (q.toNat - 1)).find? (balD q.toNat) with
  | none => rw [hf] at h; simp at h
  | some y =>
    have h1 := List.find?_some hf
    have h2 := List.mem_of_find?_eq_some hf
    refine ⟨?_, h1⟩
    unfold digB
    rw [hd, Bool.true_and, decide_eq_true_iff, sortedL_seq]
    obtain ⟨a1, a2⟩ := ordN_mem _ _ _ h2
    have hn := ordN_nodup _ _ _ (by simp) h2
    have hin : ∀ x ∈ y, x ∈ seqL 1 (q.toNat - 1) := fun x hx => by
      rcases a2 x hx with h | h
      · simp at h
      · exact h
    exact perm_of_nodup y _ hn hin (by rw [seqL_length, a1]; simp)
end Go.Abs
end

section
set_option maxRecDepth 100000
set_option maxHeartbeats 2000000
namespace Go.Proofs.YtpienljnoaendaaGreat.A
open Go Go.Abs Go.RowKit
theorem law_Carry_c (cv : Value) (nb : Nat) (H : AH) (hc : CodeOk H cv nb) :
    ACalls Tryz.prog 6 [cv] H (fun v _ => v = .bool true ∧ True) := by
  refine ACalls.wf (by kernel_rfl) fun hs => acalls_of_awp [.tmp 2] Tryz.func6 (by kernel_rfl) rfl rfl (Nat.le_of_ble_eq_true rfl) (by kernel_rfl) ?_
  have hone := hc.one
  try simp (disch := first | omega | (simp only [L3] <;> omega)) only [Sall,evalOp,init,binA_s,binE,binI,unE,convE,okNil,builtE,gv,TD.isAgg,resV,↓reduceIte,Nat.reduceEqDiff,reduceCtorEq,Nat.reduceAdd,Nat.reduceMul,Nat.reduceLeDiff,quietOp,blindOp,Int.reduceEq,Int.reduceLT,Int.reduceLE,Nat.reduceLT,tiA,tiXA, true_and]
  refine (big_c cv nb H hc).to ?_
  refine Holds.mp ?_
  by_cases hbig : 4096 < (nb : Int)
  · have e : decide (4096 < (nb : Int)) = true := decide_eq_true hbig
    try simp (disch := first | omega | (simp only [L3] <;> omega)) only [Sall,evalOp,init,binA_s,binE,binI,unE,convE,okNil,builtE,gv,TD.isAgg,resV,↓reduceIte,Nat.reduceEqDiff,reduceCtorEq,Nat.reduceAdd,Nat.reduceMul,Nat.reduceLeDiff,quietOp,blindOp,Int.reduceEq,Int.reduceLT,Int.reduceLE,Nat.reduceLT,tiA,tiXA, e]
  have e : decide (4096 < (nb : Int)) = false := decide_eq_false hbig
  have hnb : nb ≤ 4611686018427387904 := by omega
  try simp (disch := first | omega | (simp only [L3] <;> omega)) only [Sall,evalOp,init,binA_s,binE,binI,unE,convE,okNil,builtE,gv,TD.isAgg,resV,↓reduceIte,Nat.reduceEqDiff,reduceCtorEq,Nat.reduceAdd,Nat.reduceMul,Nat.reduceLeDiff,quietOp,blindOp,Int.reduceEq,Int.reduceLT,Int.reduceLE,Nat.reduceLT,tiA,tiXA, e, hone]
  refine ACalls.ex (g := fun p : Int × Value => .agg #[.int .i64 p.1, p.2]) (drawBestOrder_c cv nb H hnb hc) ?_
  rintro ⟨q, u⟩ H1 ⟨k, l, hq, hk, hb, hRR, o1⟩
  dsimp only at hq hRR
  have hu := (hRR H1 fun i r _ h => h).one
  refine Holds.mp ?_
  try simp (disch := first | omega | (simp only [L3] <;> omega)) only [Sall,evalOp,init,binA_s,binE,binI,unE,convE,okNil,builtE,gv,TD.isAgg,resV,↓reduceIte,Nat.reduceEqDiff,reduceCtorEq,Nat.reduceAdd,Nat.reduceMul,Nat.reduceLeDiff,quietOp,blindOp,Int.reduceEq,Int.reduceLT,Int.reduceLE,Nat.reduceLT,tiA,tiXA, hu]
  have o2 := ((o1.push ⟨26, true, [.int .i64 0, .slice none 0 0]⟩).putRow 0 rfl (cs' := [.int .i64 q, u]))
  obtain ⟨ei, eei⟩ : ∃ ei, ei = H1.next := ⟨_, rfl⟩
  rw [← eei] at o2 ⊢
  have keep : ∀ i r, H1.row i = some r → ((H1.push ⟨26, true, [.int .i64 0, .slice none 0 0]⟩).setCells ei [.int .i64 q, u]).row i = some r := fun i r hr => by
    have := o1.sc _ _ hr
    rw [AH.setCells_row, if_neg (by omega), AH.push_row, if_neg (by omega)]; exact hr
  generalize (H1.push ⟨26, true, [.int .i64 0, .slice none 0 0]⟩).setCells ei [.int .i64 q, u] = H2 at o2 keep ⊢
  have g3 : H2.row ei = some ⟨26, true, [.int .i64 q, u]⟩ := (o2.rowAt 0 rfl).1
  have r1 := hRR H2 fun i r _ h => keep i r h
  have sc2 := o2.sc
  have oz2 : Ow H H2 [] := Ow.left (L := []) o2
  clear hRR keep o2 o1
  have hbl := boR_length q k l
  refine ACalls.ex (g := fun w => .tuple #[w, .int .i64 (boN q k l), .int .i64 (boC q k l)]) (ACalls.scz (BestOrder_c q u k l H2 r1 (by omega))) ?_
  rintro v4 H3 ⟨⟨up3, f3⟩, sc3⟩
  have o3 := Ow.of_fr up3 sc3 f3
  have hv4 := o3.one 0 rfl
  have g3' := o3.old sc2 _ _ g3
  refine Holds.mp ?_
  try simp (disch := first | omega | (simp only [L3] <;> omega)) only [Sall,evalOp,init,binA_s,binE,binI,unE,convE,okNil,builtE,gv,TD.isAgg,resV,↓reduceIte,Nat.reduceEqDiff,reduceCtorEq,Nat.reduceAdd,Nat.reduceMul,Nat.reduceLeDiff,quietOp,blindOp,Int.reduceEq,Int.reduceLT,Int.reduceLE,Nat.reduceLT,tiA,tiXA, hv4, g3', hu]
  refine ACalls.ex (g := fun w => .tuple #[w, .int .i64 (boN q k l), .int .i64 (boC q k l)]) (ACalls.scz (specBestOrder_c q u k l H3 (r1.same (o3.old sc2)) (by omega))) ?_
  rintro v7 H4 ⟨⟨up4, f4⟩, sc4⟩
  have o4 := o3.call (Ow.of_fr up4 sc4 f4)
  have hv7 := o4.one 1 rfl
  have g3' := o4.old sc2 _ _ g3
  refine Holds.mp ?_
  try simp (disch := first | omega | (simp only [L3] <;> omega)) only [Sall,evalOp,init,binA_s,binE,binI,unE,convE,okNil,builtE,gv,TD.isAgg,resV,↓reduceIte,Nat.reduceEqDiff,reduceCtorEq,Nat.reduceAdd,Nat.reduceMul,Nat.reduceLeDiff,quietOp,blindOp,Int.reduceEq,Int.reduceLT,Int.reduceLE,Nat.reduceLT,tiA,tiXA, hv7, g3', hu]
  refine (CarryCost_c q u k l H4 (r1.same (o4.old sc2)) (by omega)).to ?_
  refine Holds.mp ?_
  try simp (disch := first | omega | (simp only [L3] <;> omega)) only [Sall,evalOp,init,binA_s,binE,binI,unE,convE,okNil,builtE,gv,TD.isAgg,resV,↓reduceIte,Nat.reduceEqDiff,reduceCtorEq,Nat.reduceAdd,Nat.reduceMul,Nat.reduceLeDiff,quietOp,blindOp,Int.reduceEq,Int.reduceLT,Int.reduceLE,Nat.reduceLT,tiA,tiXA, g3', hu]
  refine (specCarryCost_c q u k l H4 (r1.same (o4.old sc2)) (by omega)).to ?_
  refine Holds.mp ?_
  try simp (disch := first | omega | (simp only [L3] <;> omega)) only [Sall,evalOp,init,binA_s,binE,binI,unE,convE,okNil,builtE,gv,TD.isAgg,resV,↓reduceIte,Nat.reduceEqDiff,reduceCtorEq,Nat.reduceAdd,Nat.reduceMul,Nat.reduceLeDiff,quietOp,blindOp,Int.reduceEq,Int.reduceLT,Int.reduceLE,Nat.reduceLT,tiA,tiXA, hv4, hv7, bne_self_eq_false]
  refine (likeInts_c v4 v7 _ (boR q k l) H4 (by omega) (o4.rd 0 rfl) (o4.rd 1 rfl)).to ?_
  refine Holds.mp ?_
  try simp (disch := first | omega | (simp only [L3] <;> omega)) only [Sall,evalOp,init,binA_s,binE,binI,unE,convE,okNil,builtE,gv,TD.isAgg,resV,↓reduceIte,Nat.reduceEqDiff,reduceCtorEq,Nat.reduceAdd,Nat.reduceMul,Nat.reduceLeDiff,quietOp,blindOp,Int.reduceEq,Int.reduceLT,Int.reduceLE,Nat.reduceLT,tiA,tiXA, bne_self_eq_false, Bool.not_true]
  refine condC_cut (fun t H' => t 0 = cv ∧ Ow H H' []) (fun _ => ?_) (fun hz => ?_) ?_
  · try simp (disch := first | omega | (simp only [L3] <;> omega)) only [Sall,evalOp,init,binA_s,binE,binI,unE,convE,okNil,builtE,gv,TD.isAgg,resV,↓reduceIte,Nat.reduceEqDiff,reduceCtorEq,Nat.reduceAdd,Nat.reduceMul,Nat.reduceLeDiff,quietOp,blindOp,Int.reduceEq,Int.reduceLT,Int.reduceLE,Nat.reduceLT,tiA,tiXA, true_and]
    exact oz2.call (Ow.left (L := []) o4)
  · have hz0 : boC q k l = 0 := beq_iff_eq.1 hz
    have r4 := r1.same (o4.old sc2)
    obtain ⟨b1, b2, b3, b4, b5⟩ := bo_ok r4.1 hz0
    try simp (disch := first | omega | (simp only [L3] <;> omega)) only [Sall,evalOp,init,binA_s,binE,binI,unE,convE,okNil,builtE,gv,TD.isAgg,resV,↓reduceIte,Nat.reduceEqDiff,reduceCtorEq,Nat.reduceAdd,Nat.reduceMul,Nat.reduceLeDiff,quietOp,blindOp,Int.reduceEq,Int.reduceLT,Int.reduceLE,Nat.reduceLT,tiA,tiXA, g3', hu, hv4]
    refine ACalls.ex4 (g := fun (q' : Int) (u' : Value) (_ : Nat) (_ : List Int) => .tuple #[.agg #[.int .i64 q', u'], .int .i64 (codeS q k l (ordB k (boR q k l)))]) (ReorderRounds_c q u k l v4 (boR q k l) H4 r4 (by omega) (o4.rd 0 rfl) (by omega)) ?_
    rintro q' u' k' l' H5 ⟨hcode, o5⟩
    have hC : codeS q k l (ordB k (boR q k l)) = 0 := by
      unfold codeS
      rw [if_pos (codeC_rounds b2).1, if_pos b1]
    obtain ⟨rfl, rfl, rfl⟩ := hcode hC
    have o5' := o4.call o5
    have hu5 := o5.one 0 rfl
    have o6 := (o5'.push ⟨26, true, [.int .i64 0, .slice none 0 0]⟩).putRow 3 rfl (cs' := [.int .i64 q', u'])
    refine Holds.mp ?_
    try simp (disch := first | omega | (simp only [L3] <;> omega)) only [Sall,evalOp,init,binA_s,binE,binI,unE,convE,okNil,builtE,gv,TD.isAgg,resV,↓reduceIte,Nat.reduceEqDiff,reduceCtorEq,Nat.reduceAdd,Nat.reduceMul,Nat.reduceLeDiff,quietOp,blindOp,Int.reduceEq,Int.reduceLT,Int.reduceLE,Nat.reduceLT,tiA,tiXA, hu5, hC]
    generalize (H5.push ⟨26, true, [.int .i64 0, .slice none 0 0]⟩).setCells H5.next [.int .i64 q', u'] = H6 at o6 ⊢
    refine (CarryCost_c q' u' k' _ H6 (o6.rd 2 rfl) (by omega)).to ?_
    have e1 : costV q' k' (reoL l (boR q' k' l)) = boN q' k' l := by unfold costV; rw [if_pos b3]; exact b4
    have e2 : decide (costV q' k' l < boN q' k' l) = false := decide_eq_false (by unfold costV; rw [if_pos b2]; omega)
    have e3 : ((0 : Int) != 0) = false := rfl
    rw [e1, b3]
    refine Holds.mp ?_
    try simp (disch := first | omega | (simp only [L3] <;> omega)) only [Sall,evalOp,init,binA_s,binE,binI,unE,convE,okNil,builtE,gv,TD.isAgg,resV,↓reduceIte,Nat.reduceEqDiff,reduceCtorEq,Nat.reduceAdd,Nat.reduceMul,Nat.reduceLeDiff,quietOp,blindOp,Int.reduceEq,Int.reduceLT,Int.reduceLE,Nat.reduceLT,tiA,tiXA, e2, e3, bne_self_eq_false]
    exact oz2.call (Ow.left (L := []) o6)
  · rintro t H5 ⟨h0, o5⟩
    try simp (disch := first | omega | (simp only [L3] <;> omega)) only [Sall,evalOp,init,binA_s,binE,binI,unE,convE,okNil,builtE,gv,TD.isAgg,resV,↓reduceIte,Nat.reduceEqDiff,reduceCtorEq,Nat.reduceAdd,Nat.reduceMul,Nat.reduceLeDiff,quietOp,blindOp,Int.reduceEq,Int.reduceLT,Int.reduceLE,Nat.reduceLT,tiA,tiXA, h0, hone]
    have hc5 := codeUp hc (o5.old hs)
    have sc5 := o5.sc
    refine ACalls.ex (g := fun p : Int × Value => .agg #[.int .i64 p.1, p.2]) (drawCarryMatrix_c cv nb H5 hnb hc5) ?_
    rintro ⟨q, u⟩ H6 ⟨k, l, hq, hk, hb, hRR, o6⟩
    dsimp only at hq hRR
    have hu := (hRR H6 fun i r _ h => h).one
    refine Holds.mp ?_
    try simp (disch := first | omega | (simp only [L3] <;> omega)) only [Sall,evalOp,init,binA_s,binE,binI,unE,convE,okNil,builtE,gv,TD.isAgg,resV,↓reduceIte,Nat.reduceEqDiff,reduceCtorEq,Nat.reduceAdd,Nat.reduceMul,Nat.reduceLeDiff,quietOp,blindOp,Int.reduceEq,Int.reduceLT,Int.reduceLE,Nat.reduceLT,tiA,tiXA, hu]
    have o7 := ((o6.push ⟨26, true, [.int .i64 0, .slice none 0 0]⟩).putRow 0 rfl (cs' := [.int .i64 q, u]))
    obtain ⟨ei, eei⟩ : ∃ ei, ei = H6.next := ⟨_, rfl⟩
    rw [← eei] at o7 ⊢
    have keep : ∀ i r, H6.row i = some r → ((H6.push ⟨26, true, [.int .i64 0, .slice none 0 0]⟩).setCells ei [.int .i64 q, u]).row i = some r := fun i r hr => by
      have := o6.sc _ _ hr
      rw [AH.setCells_row, if_neg (by omega), AH.push_row, if_neg (by omega)]; exact hr
    generalize (H6.push ⟨26, true, [.int .i64 0, .slice none 0 0]⟩).setCells ei [.int .i64 q, u] = H7 at o7 keep ⊢
    have g18 : H7.row ei = some ⟨26, true, [.int .i64 q, u]⟩ := (o7.rowAt 0 rfl).1
    have r1 := hRR H7 fun i r _ h => keep i r h
    have sc7 := o7.sc
    have oz7 : Ow H H7 [] := o5.call (Ow.left (L := []) o7)
    clear hRR keep o7 o6
    refine ACalls.ex (g := fun w => .tuple #[w, .int .i64 (codeC q k l)]) (ACalls.scz (CarryMatrix_c q u k l H7 r1 (by omega))) ?_
    rintro v19 H8 ⟨⟨up8, f8⟩, sc8⟩
    have o8 := Ow.of_fr2 up8 sc8 f8
    have hv19 := (o8.rd2 0 rfl).one
    have g18' := o8.old sc7 _ _ g18
    refine Holds.mp ?_
    try simp (disch := first | omega | (simp only [L3] <;> omega)) only [Sall,evalOp,init,binA_s,binE,binI,unE,convE,okNil,builtE,gv,TD.isAgg,resV,↓reduceIte,Nat.reduceEqDiff,reduceCtorEq,Nat.reduceAdd,Nat.reduceMul,Nat.reduceLeDiff,quietOp,blindOp,Int.reduceEq,Int.reduceLT,Int.reduceLE,Nat.reduceLT,tiA,tiXA, hv19, g18', hu]
    refine ACalls.ex (g := fun w => .tuple #[w, .int .i64 (codeC q k l)]) (ACalls.scz (specCarryMatrix_c q u k l H8 (r1.same (o8.old sc7)) (by omega))) ?_
    rintro v21 H9 ⟨⟨up9, f9⟩, sc9⟩
    have o9 := o8.call (Ow.of_fr2 up9 sc9 f9)
    have hv21 := (o9.rd2 1 rfl).one
    have g18' := o9.old sc7 _ _ g18
    have r9 := r1.same (o9.old sc7)
    refine Holds.mp ?_
    try simp (disch := first | omega | (simp only [L3] <;> omega)) only [Sall,evalOp,init,binA_s,binE,binI,unE,convE,okNil,builtE,gv,TD.isAgg,resV,↓reduceIte,Nat.reduceEqDiff,reduceCtorEq,Nat.reduceAdd,Nat.reduceMul,Nat.reduceLeDiff,quietOp,blindOp,Int.reduceEq,Int.reduceLT,Int.reduceLE,Nat.reduceLT,tiA,tiXA, hv21, g18', hu]
    refine (IsCarryBalanced_c q u k l H9 r9 (by omega)).to ?_
    refine Holds.mp ?_
    try simp (disch := first | omega | (simp only [L3] <;> omega)) only [Sall,evalOp,init,binA_s,binE,binI,unE,convE,okNil,builtE,gv,TD.isAgg,resV,↓reduceIte,Nat.reduceEqDiff,reduceCtorEq,Nat.reduceAdd,Nat.reduceMul,Nat.reduceLeDiff,quietOp,blindOp,Int.reduceEq,Int.reduceLT,Int.reduceLE,Nat.reduceLT,tiA,tiXA, g18', hu]
    refine (specIsCarryBalanced_c q u k l H9 r9 (by omega)).to ?_
    refine Holds.mp ?_
    try simp (disch := first | omega | (simp only [L3] <;> omega)) only [Sall,evalOp,init,binA_s,binE,binI,unE,convE,okNil,builtE,gv,TD.isAgg,resV,↓reduceIte,Nat.reduceEqDiff,reduceCtorEq,Nat.reduceAdd,Nat.reduceMul,Nat.reduceLeDiff,quietOp,blindOp,Int.reduceEq,Int.reduceLT,Int.reduceLE,Nat.reduceLT,tiA,tiXA, hv19, hv21, bne_self_eq_false]
    have hbd : (carR q k l).length ≤ 14 ∧ ∀ j, j < (carR q k l).length → ((carR q k l).getD j []).length ≤ 14 := by
      unfold carR
      by_cases hC : codeC q k l = 0
      · rw [if_pos hC]
        obtain ⟨a1, _, _⟩ := car_sums hC
        obtain ⟨_, _, _, _, h14, _⟩ := codeC_even hC
        exact ⟨by rw [a1.sq.1]; omega, fun j hj => by rw [a1.sq.2 j (by rw [a1.sq.1] at hj; exact hj)]; omega⟩
      · rw [if_neg hC]; exact ⟨by simp, fun j hj => by simp at hj⟩
    have eb : (!(balV q k l == balV q k l)) = false := by simp
    refine (rows5_c v19 v21 (carR q k l) H9 (by omega) (fun j hj => by have := hbd.2 j hj; omega) (o9.rd2 0 rfl) (o9.rd2 1 rfl)).to ?_
    refine Holds.mp ?_
    try simp (disch := first | omega | (simp only [L3] <;> omega)) only [Sall,evalOp,init,binA_s,binE,binI,unE,convE,okNil,builtE,gv,TD.isAgg,resV,↓reduceIte,Nat.reduceEqDiff,reduceCtorEq,Nat.reduceAdd,Nat.reduceMul,Nat.reduceLeDiff,quietOp,blindOp,Int.reduceEq,Int.reduceLT,Int.reduceLE,Nat.reduceLT,tiA,tiXA, bne_self_eq_false, Bool.not_true, eb]
    refine condC_cut (fun t H' => t 0 = cv ∧ Ow H H' []) (fun _ => ?_) (fun hz => ?_) ?_
    · try simp (disch := first | omega | (simp only [L3] <;> omega)) only [Sall,evalOp,init,binA_s,binE,binI,unE,convE,okNil,builtE,gv,TD.isAgg,resV,↓reduceIte,Nat.reduceEqDiff,reduceCtorEq,Nat.reduceAdd,Nat.reduceMul,Nat.reduceLeDiff,quietOp,blindOp,Int.reduceEq,Int.reduceLT,Int.reduceLE,Nat.reduceLT,tiA,tiXA, h0]
      exact oz7.call (Ow.left (L := []) o9)
    · have hz0 : codeC q k l = 0 := beq_iff_eq.1 hz
      obtain ⟨S1, S2, S3⟩ := car_sums hz0
      obtain ⟨hsch, hrob, hkq, hq2, hq14, hk1, hk40⟩ := codeC_even hz0
      have eC : carR q k l = carM q.toNat k l k := by unfold carR; rw [if_pos hz0]
      have eV : costV q k l = costM (carM q.toNat k l k) q.toNat := by unfold costV; rw [if_pos hz0]
      have eB : balV q k l = balB (carM q.toNat k l k) := by unfold balV; rw [if_pos hz0]
      have hbal : balB (carM q.toNat k l k) = true → costM (carM q.toNat k l k) q.toNat = q * (q - 1) := bal_cost hz0
      have R9 := o9.rd2 0 rfl
      rw [eC] at R9
      have hsm : k * q.toNat ≤ 182 := by
        have : k * q.toNat ≤ 13 * 14 := Nat.mul_le_mul (by omega) (by omega)
        omega
      generalize carM q.toNat k l k = M at *
      obtain ⟨n, hn⟩ : ∃ n : Nat, q = n := ⟨q.toNat, by omega⟩
      rw [show q.toNat = n by omega] at *
      have hMl := S1.sq.1
      have l9 := R9.len
      rw [hMl] at l9
      have hzz : ((0 : Int) == 0) = true := rfl
      try simp (disch := first | omega | (simp only [L3] <;> omega)) only [Sall,evalOp,init,binA_s,binE,binI,unE,convE,okNil,builtE,gv,TD.isAgg,resV,↓reduceIte,Nat.reduceEqDiff,reduceCtorEq,Nat.reduceAdd,Nat.reduceMul,Nat.reduceLeDiff,quietOp,blindOp,Int.reduceEq,Int.reduceLT,Int.reduceLE,Nat.reduceLT,tiA,tiXA, hz0, hzz, builtE, l9]
      have g18z := g18'
      refine awp_loop (fun z t Hx => H9 = Hx ∧ ∃ a : Nat, z = n - a ∧ a ≤ n ∧ t 174 = .int .i64 a ∧ t 173 = .int .i64 n ∧ t 19 = v19 ∧ t 18 = .pointer (some ⟨ei, 0, none⟩) ∧ t 23 = .bool (balV q k l) ∧ t 27 = .int .i64 (costM M a) ∧ t 0 = cv) n ?_ ?_
      · refine ⟨rfl, 0, by omega, by omega, ?_⟩
        try simp (disch := first | omega | (simp only [L3] <;> omega)) only [Sall,evalOp,init,binA_s,binE,binI,unE,convE,okNil,builtE,gv,TD.isAgg,resV,↓reduceIte,Nat.reduceEqDiff,reduceCtorEq,Nat.reduceAdd,Nat.reduceMul,Nat.reduceLeDiff,quietOp,blindOp,Int.reduceEq,Int.reduceLT,Int.reduceLE,Nat.reduceLT,tiA,tiXA, Int.natCast_zero, h0, costM_zero]
      · rintro z t Hx ⟨rfl, a, hz', ha, h174, h173, h19, h18, h23, h27, h0⟩
        try simp (disch := first | omega | (simp only [L3] <;> omega)) only [Sall,evalOp,init,binA_s,binE,binI,unE,convE,okNil,builtE,gv,TD.isAgg,resV,↓reduceIte,Nat.reduceEqDiff,reduceCtorEq,Nat.reduceAdd,Nat.reduceMul,Nat.reduceLeDiff,quietOp,blindOp,Int.reduceEq,Int.reduceLT,Int.reduceLE,Nat.reduceLT,tiA,tiXA, h174, h173]
        refine condC_dec (fun hh => ?_) (fun hh => ?_)
        · have han : a < n := by omega
          obtain ⟨ci, co, cu, cc, cr, yv, m, ex, c1, c2, c3, c4⟩ := R9.get (show a < M.length by omega)
          have hm := c3.lenK1
          have hra := S1.sq.2 a han
          obtain ⟨col, hcol⟩ : ∃ col, col = M.map fun r => r.getD a 0 := ⟨_, rfl⟩
          have hcl : col.length = n := by rw [hcol, List.length_map, hMl]
          have hcat : ∀ b, b < n → col.getD b 0 = (M.getD b []).getD a 0 := fun b hb => by rw [hcol, list_at_map (by omega)]
          have hcs : col.sum = q - 1 := by rw [hcol]; exact S3 a han
          try simp (disch := first | omega | (simp only [L3] <;> omega)) only [Sall,evalOp,init,binA_s,binE,binI,unE,convE,okNil,builtE,gv,TD.isAgg,resV,↓reduceIte,Nat.reduceEqDiff,reduceCtorEq,Nat.reduceAdd,Nat.reduceMul,Nat.reduceLeDiff,quietOp,blindOp,Int.reduceEq,Int.reduceLT,Int.reduceLE,Nat.reduceLT,tiA,tiXA, h174, h19, builtE, l9]
          have hsum0 : ∀ b, b ≤ n → -1000000 ≤ (col.take b).sum ∧ (col.take b).sum ≤ 1000000 := by
            have key : ∀ b, b ≤ n → 0 ≤ (col.take b).sum ∧ (col.take b).sum ≤ 182 * (b : Int) := by
              intro b
              induction b with
              | zero => intro _; simp
              | succ b ih =>
                intro hb
                have ih := ih (by omega)
                have hx := S1.at_ b a
                rw [take_snoc col 0 b (by omega), List.sum_append, List.sum_cons, List.sum_nil, hcat b (by omega)]
                omega
            intro b hb
            have := key b hb
            omega
          refine awp_loop (fun z' t Hy => H9 = Hy ∧ ∃ b : Nat, z' = n - b ∧ b ≤ n ∧ t 179 = .int .i64 b ∧ t 178 = .int .i64 n ∧ t 28 = .int .i64 a ∧ t 29 = .int .i64 (col.take b).sum ∧ t 27 = .int .i64 (costR (M.getD a []) (costM M a) b) ∧ t 174 = .int .i64 a ∧ t 173 = .int .i64 n ∧ t 19 = v19 ∧ t 18 = .pointer (some ⟨ei, 0, none⟩) ∧ t 23 = .bool (balV q k l) ∧ t 0 = cv) n ?_ ?_
          · refine ⟨rfl, 0, by omega, by omega, ?_⟩
            try simp (disch := first | omega | (simp only [L3] <;> omega)) only [Sall,evalOp,init,binA_s,binE,binI,unE,convE,okNil,builtE,gv,TD.isAgg,resV,↓reduceIte,Nat.reduceEqDiff,reduceCtorEq,Nat.reduceAdd,Nat.reduceMul,Nat.reduceLeDiff,quietOp,blindOp,Int.reduceEq,Int.reduceLT,Int.reduceLE,Nat.reduceLT,tiA,tiXA, Int.natCast_zero, h0, costR_zero, h174, h173, h19, h18, h23, h27, List.take_zero, List.sum_nil]
          · rintro z' t Hy ⟨rfl, b, hz', hb, h179, h178, h28, h29, h27, h174, h173, h19, h18, h23, h0⟩
            try simp (disch := first | omega | (simp only [L3] <;> omega)) only [Sall,evalOp,init,binA_s,binE,binI,unE,convE,okNil,builtE,gv,TD.isAgg,resV,↓reduceIte,Nat.reduceEqDiff,reduceCtorEq,Nat.reduceAdd,Nat.reduceMul,Nat.reduceLeDiff,quietOp,blindOp,Int.reduceEq,Int.reduceLT,Int.reduceLE,Nat.reduceLT,tiA,tiXA, h179, h178]
            refine condC_dec (fun hh2 => ?_) (fun hh2 => ?_)
            · have hbn : b < n := by omega
              obtain ⟨di, do_, du, dc, dr, zv, m', ex2, d1, d2, d3, d4⟩ := R9.get (show b < M.length by omega)
              rw [ex] at ex2
              cases ex2
              rw [c1] at d1
              cases d1
              have hrb := S1.sq.2 b hbn
              have hm' := d3.lenK1
              obtain ⟨pi, po, pu, pc, pr, ey, p1, p2, p3, p4⟩ := c3.get (by omega)
              obtain ⟨qi, qo, qu, qc, qr, ez, q1, q2, q3, q4⟩ := d3.get (by omega)
              have p5 := p3 b (by omega)
              have q5 := q3 a (by omega)
              have x1 := S1.at_ a b
              have x2 := S1.at_ b a
              have hs1 := hsum0 b hb
              have es : IntKind.i64.wrap (costR (M.getD a []) (costM M a) b + IntKind.i64.wrap ((M.getD a []).getD b 0 * (M.getD a []).getD b 0)) = costR (M.getD a []) (costM M a) (b + 1) := (costR_succ _ _ _).symm
              have ec : (col.take b).sum + (M.getD b []).getD a 0 = (col.take (b + 1)).sum := by
                rw [take_snoc col 0 b (by omega), List.sum_append, List.sum_cons, List.sum_nil, hcat b hbn]; omega
              try simp (disch := first | omega | (simp only [L3] <;> omega)) only [Sall,evalOp,init,binA_s,binE,binI,unE,convE,okNil,builtE,gv,TD.isAgg,resV,↓reduceIte,Nat.reduceEqDiff,reduceCtorEq,Nat.reduceAdd,Nat.reduceMul,Nat.reduceLeDiff,quietOp,blindOp,Int.reduceEq,Int.reduceLT,Int.reduceLE,Nat.reduceLT,tiA,tiXA, h179, h28, h29, h19, ex, c1, c2, c4, d2, d4, ey, ez, p1, p5, q1, q5, w64]
              (repeat refine And.intro (by omega) ?_)
              refine draw_id (by kernel_rfl) (by kernel_rfl) ?_
              try simp (disch := first | omega | (simp only [L3] <;> omega)) only [Sall,evalOp,init,binA_s,binE,binI,unE,convE,okNil,builtE,gv,TD.isAgg,resV,↓reduceIte,Nat.reduceEqDiff,reduceCtorEq,Nat.reduceAdd,Nat.reduceMul,Nat.reduceLeDiff,quietOp,blindOp,Int.reduceEq,Int.reduceLT,Int.reduceLE,Nat.reduceLT,tiA,tiXA, h179, h28, h29, h27, h19, ex, c1, c2, c4, d2, d4, ey, ez, p1, p5, q1, q5, es, ec, w64]
              (repeat refine And.intro (by omega) ?_)
              try simp (disch := first | omega | (simp only [L3] <;> omega)) only [Sall,evalOp,init,binA_s,binE,binI,unE,convE,okNil,builtE,gv,TD.isAgg,resV,↓reduceIte,Nat.reduceEqDiff,reduceCtorEq,Nat.reduceAdd,Nat.reduceMul,Nat.reduceLeDiff,quietOp,blindOp,Int.reduceEq,Int.reduceLT,Int.reduceLE,Nat.reduceLT,tiA,tiXA, h179, h28, h29, h27, h19, h178, h174, h173, h18, h23, h0, ex, c1, c2, c4, d2, d4, ey, ez, p1, p5, q1, q5, es, ec, w64]
              exact ⟨n - (b + 1), by omega, b + 1, rfl, by omega, by omega, rfl, rfl⟩
            · have hbe : b = n := by omega
              rw [hbe, List.take_of_length_le (by omega), hcs] at h29
              have e27 : costR (M.getD a []) (costM M a) n = costM M (a + 1) := by rw [costM_succ, hra]
              rw [hbe, e27] at h27
              have hsr : (M.getD a []).sum = q - 1 := S2 a han
              have q0 : ((q - 1) != (q - 1)) = false := bne_self_eq_false _
              try simp (disch := first | omega | (simp only [L3] <;> omega)) only [Sall,evalOp,init,binA_s,binE,binI,unE,convE,okNil,builtE,gv,TD.isAgg,resV,↓reduceIte,Nat.reduceEqDiff,reduceCtorEq,Nat.reduceAdd,Nat.reduceMul,Nat.reduceLeDiff,quietOp,blindOp,Int.reduceEq,Int.reduceLT,Int.reduceLE,Nat.reduceLT,tiA,tiXA, true_and]
              refine draw_in [0, 1, 2, 3, 5, 6, 7, 4, 8, 9, 10, 11, 12, 13, 14, 15] (by kernel_rfl) (by kernel_rfl) (by kernel_rfl) ?_
              try simp (disch := first | omega | (simp only [L3] <;> omega)) only [Sall,evalOp,init,binA_s,binE,binI,unE,convE,okNil,builtE,gv,TD.isAgg,resV,↓reduceIte,Nat.reduceEqDiff,reduceCtorEq,Nat.reduceAdd,Nat.reduceMul,Nat.reduceLeDiff,quietOp,blindOp,Int.reduceEq,Int.reduceLT,Int.reduceLE,Nat.reduceLT,tiA,tiXA, h174, h173, h28, h29, h19, h18, ex, c1, c2, c4, g18z, hu, hsr, w64]
              refine ⟨⟨by omega, by omega⟩, ?_⟩
              refine (sum_c yv m (M.getD a []) H9 (by omega) c3 (fun x hx => by
                obtain ⟨j, hj, rfl⟩ := List.mem_iff_getElem.1 hx
                have := S1.at_ a j
                rw [List.getD_eq_getElem?_getD, List.getElem?_eq_getElem hj, Option.getD_some] at this
                omega)).to ?_
              refine ⟨.inr (.inr (LE.refl _)), ?_⟩
              rw [hsr]
              try simp (disch := first | omega | (simp only [L3] <;> omega)) only [Sall,evalOp,init,binA_s,binE,binI,unE,convE,okNil,builtE,gv,TD.isAgg,resV,↓reduceIte,Nat.reduceEqDiff,reduceCtorEq,Nat.reduceAdd,Nat.reduceMul,Nat.reduceLeDiff,quietOp,blindOp,Int.reduceEq,Int.reduceLT,Int.reduceLE,Nat.reduceLT,tiA,tiXA, h174, h173, h28, h29, h19, h18, h23, h27, h0, g18z, hu, q0, w64]
              exact ⟨n - (a + 1), by omega, a + 1, rfl, by omega, by omega, rfl⟩
        · have hae : a = n := by omega
          rw [hae] at h27
          try simp (disch := first | omega | (simp only [L3] <;> omega)) only [Sall,evalOp,init,binA_s,binE,binI,unE,convE,okNil,builtE,gv,TD.isAgg,resV,↓reduceIte,Nat.reduceEqDiff,reduceCtorEq,Nat.reduceAdd,Nat.reduceMul,Nat.reduceLeDiff,quietOp,blindOp,Int.reduceEq,Int.reduceLT,Int.reduceLE,Nat.reduceLT,tiA,tiXA, h18, g18z, hu]
          refine (CarryCost_c q u k l H9 r9 (by omega)).to ?_
          refine Holds.mp ?_
          rw [hz0, eV]
          have e1 : ((0 : Int) != 0) = false := rfl
          try simp (disch := first | omega | (simp only [L3] <;> omega)) only [Sall,evalOp,init,binA_s,binE,binI,unE,convE,okNil,builtE,gv,TD.isAgg,resV,↓reduceIte,Nat.reduceEqDiff,reduceCtorEq,Nat.reduceAdd,Nat.reduceMul,Nat.reduceLeDiff,quietOp,blindOp,Int.reduceEq,Int.reduceLT,Int.reduceLE,Nat.reduceLT,tiA,tiXA, e1, h27, h23, bne_self_eq_false]
          cases hB : balV q k l with
          | false =>
            rw [hB] at h23
            try simp (disch := first | omega | (simp only [L3] <;> omega)) only [Sall,evalOp,init,binA_s,binE,binI,unE,convE,okNil,builtE,gv,TD.isAgg,resV,↓reduceIte,Nat.reduceEqDiff,reduceCtorEq,Nat.reduceAdd,Nat.reduceMul,Nat.reduceLeDiff,quietOp,blindOp,Int.reduceEq,Int.reduceLT,Int.reduceLE,Nat.reduceLT,tiA,tiXA, h0]
            exact oz7.call (Ow.left (L := []) o9)
          | true =>
            rw [hB] at h23
            have e2 := hbal (by rw [← eB]; exact hB)
            have e3 : (costM M n != q * (q - 1)) = false := by rw [e2]; exact bne_self_eq_false _
            have hqq : 0 ≤ q * (q - 1) ∧ q * (q - 1) ≤ 14 * 13 := ⟨Int.mul_nonneg (by omega) (by omega), Int.mul_le_mul (by omega) (by omega) (by omega) (by omega)⟩
            try simp (disch := first | omega | (simp only [L3] <;> omega)) only [Sall,evalOp,init,binA_s,binE,binI,unE,convE,okNil,builtE,gv,TD.isAgg,resV,↓reduceIte,Nat.reduceEqDiff,reduceCtorEq,Nat.reduceAdd,Nat.reduceMul,Nat.reduceLeDiff,quietOp,blindOp,Int.reduceEq,Int.reduceLT,Int.reduceLE,Nat.reduceLT,tiA,tiXA, h0, h27, h18, g18z, e3, w64]
            exact oz7.call (Ow.left (L := []) o9)
    · rintro t Ha ⟨h0, oa⟩
      try simp (disch := first | omega | (simp only [L3] <;> omega)) only [Sall,evalOp,init,binA_s,binE,binI,unE,convE,okNil,builtE,gv,TD.isAgg,resV,↓reduceIte,Nat.reduceEqDiff,reduceCtorEq,Nat.reduceAdd,Nat.reduceMul,Nat.reduceLeDiff,quietOp,blindOp,Int.reduceEq,Int.reduceLT,Int.reduceLE,Nat.reduceLT,tiA,tiXA, h0, hone]
      refine ACalls.ex3 (g := fun (n : Nat) (w : Value) (_ : List Int) => .tuple #[.int .i64 n, w]) (drawDigitRobin_c cv nb Ha hnb (codeUp hc (oa.old hs))) ?_
      rintro n w y Hb ⟨hn16, hyl, hyr, ob⟩
      have hw := ob.one 0 rfl
      have oz := oa.call ob
      refine Holds.mp ?_
      try simp (disch := first | omega | (simp only [L3] <;> omega)) only [Sall,evalOp,init,binA_s,binE,binI,unE,convE,okNil,builtE,gv,TD.isAgg,resV,↓reduceIte,Nat.reduceEqDiff,reduceCtorEq,Nat.reduceAdd,Nat.reduceMul,Nat.reduceLeDiff,quietOp,blindOp,Int.reduceEq,Int.reduceLT,Int.reduceLE,Nat.reduceLT,tiA,tiXA, hw]
      refine ACalls.ex (g := fun u => .tuple #[.agg #[.int .i64 (drQ n y), u], .int .i64 (drC n y)]) (ACalls.scz (DigitRobin_c n w _ y Hb (by omega) (ob.rd 0 rfl) (by omega))) ?_
      rintro u35 Hc ⟨⟨upc, fc⟩, scc⟩
      have oc := ob.call (Ow.of_fr upc scc fc)
      have hu35 := oc.one 1 rfl
      have od := (oc.push ⟨26, true, [.int .i64 0, .slice none 0 0]⟩).putRow 2 rfl (cs' := [.int .i64 (drQ n y), u35])
      refine Holds.mp ?_
      try simp (disch := first | omega | (simp only [L3] <;> omega)) only [Sall,evalOp,init,binA_s,binE,binI,unE,convE,okNil,builtE,gv,TD.isAgg,resV,↓reduceIte,Nat.reduceEqDiff,reduceCtorEq,Nat.reduceAdd,Nat.reduceMul,Nat.reduceLeDiff,quietOp,blindOp,Int.reduceEq,Int.reduceLT,Int.reduceLE,Nat.reduceLT,tiA,tiXA, hu35, hw]
      generalize hp35 : Hc.next = p35 at od ⊢
      generalize (Hc.push ⟨26, true, [.int .i64 0, .slice none 0 0]⟩).setCells p35 [.int .i64 (drQ n y), u35] = Hd at od ⊢
      refine ACalls.ex (g := fun u => .tuple #[.agg #[.int .i64 (drQ n y), u], .int .i64 (drC n y)]) (ACalls.scz (specDigitRobin_c n w _ y Hd (by omega) (od.rd 0 rfl) (by omega))) ?_
      rintro u37 He ⟨⟨upe, fe⟩, sce⟩
      have oe := od.call (Ow.of_fr upe sce fe)
      have hu37 := oe.one 3 rfl
      have of_ := (oe.push ⟨26, true, [.int .i64 0, .slice none 0 0]⟩).putRow 4 rfl (cs' := [.int .i64 (drQ n y), u37])
      have g35 := (oe.rowAt 2 rfl).1
      have ng : ¬ p35 = He.next := by have := (oe.rowAt 2 rfl).2.2; omega
      refine Holds.mp ?_
      try simp (disch := first | omega | (simp only [L3] <;> omega)) only [Sall,evalOp,init,binA_s,binE,binI,unE,convE,okNil,builtE,gv,TD.isAgg,resV,↓reduceIte,Nat.reduceEqDiff,reduceCtorEq,Nat.reduceAdd,Nat.reduceMul,Nat.reduceLeDiff,quietOp,blindOp,Int.reduceEq,Int.reduceLT,Int.reduceLE,Nat.reduceLT,tiA,tiXA, hu35, hu37, bne_self_eq_false, g35, ng]
      generalize hp37 : He.next = p37 at of_ ng ⊢
      generalize (He.push ⟨26, true, [.int .i64 0, .slice none 0 0]⟩).setCells p37 [.int .i64 (drQ n y), u37] = Hf at of_ ⊢
      have hdk := drK_le n y
      have g35 := (of_.rowAt 2 rfl).1
      refine (schedules5_c (drQ n y) u35 u37 (drK n y) (drL n y) Hf (by omega) (of_.rd 1 rfl) (of_.rd 3 rfl)).to ?_
      refine Holds.mp ?_
      try simp (disch := first | omega | (simp only [L3] <;> omega)) only [Sall,evalOp,init,binA_s,binE,binI,unE,convE,okNil,builtE,gv,TD.isAgg,resV,↓reduceIte,Nat.reduceEqDiff,reduceCtorEq,Nat.reduceAdd,Nat.reduceMul,Nat.reduceLeDiff,quietOp,blindOp,Int.reduceEq,Int.reduceLT,Int.reduceLE,Nat.reduceLT,tiA,tiXA, Bool.not_true]
      refine condC_cut (fun t H' => t 0 = cv ∧ Ow H H' []) (fun _ => ?_) (fun hz => ?_) ?_
      · try simp (disch := first | omega | (simp only [L3] <;> omega)) only [Sall,evalOp,init,binA_s,binE,binI,unE,convE,okNil,builtE,gv,TD.isAgg,resV,↓reduceIte,Nat.reduceEqDiff,reduceCtorEq,Nat.reduceAdd,Nat.reduceMul,Nat.reduceLeDiff,quietOp,blindOp,Int.reduceEq,Int.reduceLT,Int.reduceLE,Nat.reduceLT,tiA,tiXA, h0]
        exact oa.call (Ow.left (L := []) of_)
      · have hz0 : drC n y = 0 := beq_iff_eq.1 hz
        have hD : digB n y = true := by
          unfold drC at hz0
          by_cases h : digB n y = true
          · exact h
          · rw [if_neg h] at hz0; omega
        obtain ⟨_, _, _, d1, d2, d3⟩ := dig_ok hD
        have e1 : drQ n y = n := by unfold drQ; rw [if_pos hD]
        have e2 : drK n y = y.length := by unfold drK; rw [if_pos hD]
        have e3 : drL n y = digL (n : Int).toNat y := by unfold drL; rw [if_pos hD]
        have r35 := of_.rd 1 rfl
        try simp (disch := first | omega | (simp only [L3] <;> omega)) only [Sall,evalOp,init,binA_s,binE,binI,unE,convE,okNil,builtE,gv,TD.isAgg,resV,↓reduceIte,Nat.reduceEqDiff,reduceCtorEq,Nat.reduceAdd,Nat.reduceMul,Nat.reduceLeDiff,quietOp,blindOp,Int.reduceEq,Int.reduceLT,Int.reduceLE,Nat.reduceLT,tiA,tiXA, g35, hu35]
        refine (IsRoundRobin_c (drQ n y) u35 (drK n y) (drL n y) Hf r35 (by omega)).to ?_
        have e4 : (schedB (drQ n y) (drK n y) (drL n y) && robinB (drQ n y).toNat (drK n y) (drL n y)) = true := by
          rw [e1, e2, e3, d1, d2]; rfl
        have e5 : codeS (drQ n y) (drK n y) (drL n y) true = 0 := by
          unfold codeS
          rw [e1, e2, e3, if_pos d1, if_pos rfl]
        have e6 : ((0 : Int) != 0) = false := rfl
        rw [e4, e5]
        refine Holds.mp ?_
        try simp (disch := first | omega | (simp only [L3] <;> omega)) only [Sall,evalOp,init,binA_s,binE,binI,unE,convE,okNil,builtE,gv,TD.isAgg,resV,↓reduceIte,Nat.reduceEqDiff,reduceCtorEq,Nat.reduceAdd,Nat.reduceMul,Nat.reduceLeDiff,quietOp,blindOp,Int.reduceEq,Int.reduceLT,Int.reduceLE,Nat.reduceLT,tiA,tiXA, e6, h0, Bool.not_true]
        exact oa.call (Ow.left (L := []) of_)
      · rintro t Hg ⟨h0, og⟩
        try simp (disch := first | omega | (simp only [L3] <;> omega)) only [Sall,evalOp,init,binA_s,binE,binI,unE,convE,okNil,builtE,gv,TD.isAgg,resV,↓reduceIte,Nat.reduceEqDiff,reduceCtorEq,Nat.reduceAdd,Nat.reduceMul,Nat.reduceLeDiff,quietOp,blindOp,Int.reduceEq,Int.reduceLT,Int.reduceLE,Nat.reduceLT,tiA,tiXA, h0, hone]
        refine ACalls.ex (g := fun n : Nat => .int .i64 n) (drawFirstDigitOrder_c cv nb Hg hnb (codeUp hc (og.old hs))) ?_
        rintro n Hh ⟨hn1, hn16, oh⟩
        refine Holds.mp ?_
        try simp (disch := first | omega | (simp only [L3] <;> omega)) only [Sall,evalOp,init,binA_s,binE,binI,unE,convE,okNil,builtE,gv,TD.isAgg,resV,↓reduceIte,Nat.reduceEqDiff,reduceCtorEq,Nat.reduceAdd,Nat.reduceMul,Nat.reduceLeDiff,quietOp,blindOp,Int.reduceEq,Int.reduceLT,Int.reduceLE,Nat.reduceLT,tiA,tiXA, true_and]
        refine ACalls.ex (g := fun u => .tuple #[u, .int .i64 (fdC n)]) (ACalls.scz (FirstDigitOrder_c n Hh (by omega))) ?_
        rintro v42 Hi ⟨⟨upi, fi⟩, sci⟩
        have oi := oh.call (Ow.of_fr upi sci fi)
        have hv42 := oi.one 0 rfl
        refine Holds.mp ?_
        try simp (disch := first | omega | (simp only [L3] <;> omega)) only [Sall,evalOp,init,binA_s,binE,binI,unE,convE,okNil,builtE,gv,TD.isAgg,resV,↓reduceIte,Nat.reduceEqDiff,reduceCtorEq,Nat.reduceAdd,Nat.reduceMul,Nat.reduceLeDiff,quietOp,blindOp,Int.reduceEq,Int.reduceLT,Int.reduceLE,Nat.reduceLT,tiA,tiXA, hv42]
        refine ACalls.ex (g := fun u => .tuple #[u, .int .i64 (fdC n)]) (ACalls.scz (specFirstDigitOrder_c n Hi (by omega))) ?_
        rintro v44 Hj ⟨⟨upj, fj⟩, scj⟩
        have oj := oi.call (Ow.of_fr upj scj fj)
        have hv44 := oj.one 1 rfl
        have hfl := fdR_length n
        refine Holds.mp ?_
        try simp (disch := first | omega | (simp only [L3] <;> omega)) only [Sall,evalOp,init,binA_s,binE,binI,unE,convE,okNil,builtE,gv,TD.isAgg,resV,↓reduceIte,Nat.reduceEqDiff,reduceCtorEq,Nat.reduceAdd,Nat.reduceMul,Nat.reduceLeDiff,quietOp,blindOp,Int.reduceEq,Int.reduceLT,Int.reduceLE,Nat.reduceLT,tiA,tiXA, hv42, hv44, bne_self_eq_false]
        refine (likeInts_c v42 v44 _ (fdR n) Hj (by omega) (oj.rd 0 rfl) (oj.rd 1 rfl)).to ?_
        refine Holds.mp ?_
        try simp (disch := first | omega | (simp only [L3] <;> omega)) only [Sall,evalOp,init,binA_s,binE,binI,unE,convE,okNil,builtE,gv,TD.isAgg,resV,↓reduceIte,Nat.reduceEqDiff,reduceCtorEq,Nat.reduceAdd,Nat.reduceMul,Nat.reduceLeDiff,quietOp,blindOp,Int.reduceEq,Int.reduceLT,Int.reduceLE,Nat.reduceLT,tiA,tiXA, Bool.not_true]
        by_cases hz0 : fdC n = 0
        · have e0 : (fdC n == 0) = true := beq_iff_eq.2 hz0
          obtain ⟨hD, hB⟩ := first_ok hz0
          obtain ⟨_, _, _, d1, d2, d3⟩ := dig_ok hD
          have e1 : drQ n (fdR n) = n := by unfold drQ; rw [if_pos hD]
          have e2 : drK n (fdR n) = (fdR n).length := by unfold drK; rw [if_pos hD]
          have e3 : drL n (fdR n) = digL (n : Int).toNat (fdR n) := by unfold drL; rw [if_pos hD]
          have e4 : drC n (fdR n) = 0 := by unfold drC; rw [if_pos hD]
          try simp (disch := first | omega | (simp only [L3] <;> omega)) only [Sall,evalOp,init,binA_s,binE,binI,unE,convE,okNil,builtE,gv,TD.isAgg,resV,↓reduceIte,Nat.reduceEqDiff,reduceCtorEq,Nat.reduceAdd,Nat.reduceMul,Nat.reduceLeDiff,quietOp,blindOp,Int.reduceEq,Int.reduceLT,Int.reduceLE,Nat.reduceLT,tiA,tiXA, e0, hv42]
          refine ACalls.ex (g := fun u => .tuple #[.agg #[.int .i64 (drQ n (fdR n)), u], .int .i64 (drC n (fdR n))]) (ACalls.scz (DigitRobin_c n v42 _ (fdR n) Hj (by omega) (oj.rd 0 rfl) (by omega))) ?_
          rintro u46 Hk ⟨⟨upk, fk⟩, sck⟩
          have ok := oj.call (Ow.of_fr upk sck fk)
          have hu46 := ok.one 2 rfl
          have ol := (ok.push ⟨26, true, [.int .i64 0, .slice none 0 0]⟩).putRow 3 rfl (cs' := [.int .i64 (drQ n (fdR n)), u46])
          refine Holds.mp ?_
          try simp (disch := first | omega | (simp only [L3] <;> omega)) only [Sall,evalOp,init,binA_s,binE,binI,unE,convE,okNil,builtE,gv,TD.isAgg,resV,↓reduceIte,Nat.reduceEqDiff,reduceCtorEq,Nat.reduceAdd,Nat.reduceMul,Nat.reduceLeDiff,quietOp,blindOp,Int.reduceEq,Int.reduceLT,Int.reduceLE,Nat.reduceLT,tiA,tiXA, hu46]
          generalize (Hk.push ⟨26, true, [.int .i64 0, .slice none 0 0]⟩).setCells Hk.next [.int .i64 (drQ n (fdR n)), u46] = Hl at ol ⊢
          have hdk := drK_le n (fdR n)
          refine (IsCarryBalanced_c (drQ n (fdR n)) u46 (drK n (fdR n)) (drL n (fdR n)) Hl (ol.rd 2 rfl) (by omega)).to ?_
          have e5 : codeC (drQ n (fdR n)) (drK n (fdR n)) (drL n (fdR n)) = 0 := by rw [e1, e2, e3]; exact d3
          have e6 : balV (drQ n (fdR n)) (drK n (fdR n)) (drL n (fdR n)) = true := by
            unfold balV
            rw [if_pos e5, e1, e2, e3]; exact hB
          have e7 : ((0 : Int) == 0) = true := rfl
          rw [e5, e6, e4]
          refine Holds.mp ?_
          try simp (disch := first | omega | (simp only [L3] <;> omega)) only [Sall,evalOp,init,binA_s,binE,binI,unE,convE,okNil,builtE,gv,TD.isAgg,resV,↓reduceIte,Nat.reduceEqDiff,reduceCtorEq,Nat.reduceAdd,Nat.reduceMul,Nat.reduceLeDiff,quietOp,blindOp,Int.reduceEq,Int.reduceLT,Int.reduceLE,Nat.reduceLT,tiA,tiXA, e7]
        · have e0 : (fdC n == 0) = false := beq_eq_false_iff_ne.2 hz0
          try simp (disch := first | omega | (simp only [L3] <;> omega)) only [Sall,evalOp,init,binA_s,binE,binI,unE,convE,okNil,builtE,gv,TD.isAgg,resV,↓reduceIte,Nat.reduceEqDiff,reduceCtorEq,Nat.reduceAdd,Nat.reduceMul,Nat.reduceLeDiff,quietOp,blindOp,Int.reduceEq,Int.reduceLT,Int.reduceLE,Nat.reduceLT,tiA,tiXA, e0]
end Go.Proofs.YtpienljnoaendaaGreat.A
end

section
set_option maxRecDepth 100000
namespace Go.Proofs.YtpienljnoaendaaGreat.A
open Go Go.Abs Go.RowKit
section
variable {K : Type} {enc : TypeId × Value → K} {W : World} {base b0 : Nat} {spare : Nat → Bool} {held : Bool}
end
end Go.Proofs.YtpienljnoaendaaGreat.A
end

section
set_option maxRecDepth 100000
namespace Go.Proofs.YtpienljnoaendaaGreat.A
open Go Go.Abs Go.RowKit
section
variable {K : Type} {enc : TypeId × Value → K} {W : World} {b0 : Nat} {spare : Nat → Bool} {held : Bool} {v : Value} {d : DataW K} {p : List MemPlace}
theorem cell_of_val {t e : TypeId} (hu : Tryz.prog.underlying t = some (.slice e)) (hok : Value.okWide Tryz.prog W .any b0 t v) : Cell.okWide Tryz.prog W .any 0 t v := by
  unfold Value.okWide at hok
  rw [hu] at hok
  exact hok
theorem cells_slice1 {t e : TypeId} (hu : Tryz.prog.underlying t = some (.slice e)) (hok : Cell.okWide Tryz.prog W .any 0 t v) : v.cells.toList = [v] := by
  rcases ok_slice_cell hu hok with rfl | ⟨b, o, n, c, rfl, _⟩ <;> rfl
end
end Go.Proofs.YtpienljnoaendaaGreat.A
end

section
set_option maxRecDepth 100000
namespace Go.Proofs.YtpienljnoaendaaGreat.A
open Go Go.Abs Go.RowKit
theorem uByte : Tryz.prog.underlying 5 = some (.int .u8) := by kernel_rfl
theorem uBytes : Tryz.prog.underlying 22 = some (.slice 5) := by kernel_rfl
theorem cByte : Tryz.prog.cellsOf 5 = 1 := by kernel_rfl
section
variable {K : Type} {enc : TypeId × Value → K} {W : World} {b0 : Nat} {spare : Nat → Bool} {held : Bool} {v : Value} {d : DataW K} {p : List MemPlace}
theorem open_B (h : DataW.Trod enc Tryz.prog W 0 spare held 22 v d p) (hok : Value.okWide Tryz.prog W .any b0 22 v) :
    ∃ nb, CodeOk (given W) v nb ∧ V1 id W.heap.size W v v ∧ nb ≤ 9223372036854775807 := by
  have h0 := cell_of_val uBytes hok
  obtain ⟨fuel, h⟩ := h
  rw [cells_slice1 uBytes h0] at h
  rcases ok_slice_cell uBytes h0 with rfl | ⟨b, o, n, c, rfl, hb, hn⟩
  · exact ⟨0, .inl ⟨rfl, _, _, rfl⟩, .scal _ rfl, by omega⟩
  · refine ⟨n, ?_, V1.sle (ρ := id) b o n c hb, hn⟩
    rcases DataW.trod_slice uBytes h with ⟨h0, _⟩ | ⟨a, len, cap, elems, rest, m, _, hcs, _, _, _, _, hlen, hel, _, _⟩
    · simp at h0
    · simp only [List.cons.injEq, Value.slice.injEq, Option.some.injEq, and_true] at hcs
      obtain ⟨rfl, rfl, rfl⟩ := hcs
      have each : ∀ j, j < n → ∃ z, W.cell? ⟨b, o + j, none⟩ = some (.int .u8 z) ∧ 0 ≤ z ∧ z ≤ 255 := by
        intro j hj
        have h1 := hel j hj
        rw [List.getElem?_eq_getElem (by omega), cByte, Option.bind_eq_some_iff] at h1
        obtain ⟨cs', hc1, hc2⟩ := h1
        obtain ⟨_, hl, hc⟩ := World.cells?_some hc1
        have h2 := hc 0 (by omega)
        obtain ⟨z, hz, _, hw⟩ := DataW.trod_int uByte hc2
        refine ⟨z, ?_, ?_⟩
        · rw [hz] at h2
          rw [Addr.add_lit, Addr.add_lit] at h2
          simpa using h2
        · unfold Lit.wf at hw
          simp only [Bool.and_eq_true, decide_eq_true_eq] at hw
          exact hw
      rcases Nat.eq_zero_or_pos n with h0 | h0
      · exact .inl ⟨h0, _, _, by rw [h0]⟩
      · refine .inr ⟨b, o, none, c, ⟨0, false, absRow W b⟩, rfl, ?_, fun j hj => ?_⟩
        · obtain ⟨z, hz, _⟩ := each 0 h0
          exact (given_cell hz).2.1
        · obtain ⟨z, hz, z1, z2⟩ := each j hj
          exact ⟨z, (given_cell hz).2.2, z1, z2⟩
end
end Go.Proofs.YtpienljnoaendaaGreat.A
end
