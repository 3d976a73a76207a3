/- Draws: a schedule with results, seldom none. And what follows. -/
import Derived.Test.YtpienljnoaendaaGreatM3
import Derived.Lib.SlicesCompact
import Derived.Shelf.SlicesG.CompactI
import Derived.Sort.OwnSortedInts
set_option linter.unusedSimpArgs false
set_option linter.unusedVariables false
section
set_option maxRecDepth 100000
set_option maxHeartbeats 2000000
namespace Go.Proofs.YtpienljnoaendaaGreat.A
open Go Go.Abs Go.RowKit
theorem awp_cut5 {P : Program} {a b c d e f : Code} {Q : Exit → T → AH → Prop} {t : T} {H : AH} (M : T → AH → Prop) (h : awp P (a.seq (b.seq (c.seq (d.seq e)))) (seqQ M Q) t H) (k : ∀ t H, M t H → awp P f Q t H) : awp P (a.seq (b.seq (c.seq (d.seq (e.seq f))))) Q t H := by
  rw [zeS] at h ⊢
  refine zbP a _ _ t H (fun e t H h => ?_) h
  cases e with
  | normal =>
    simp only [zd8] at h ⊢
    rw [zeS] at h ⊢
    refine zbP b _ _ t H (fun e t H h => ?_) h
    cases e with
    | normal => exact awp_cut3 M h k
    | _ => exact h
  | _ => exact h
theorem Dq.lowEq {cv : Value} {nb si : Nat} {H H' : AH} {L : List Th} (h : Dq cv nb si H H' L) {i : Nat} (hi : i < H.next) (hs : i ≠ si) : H'.row i = H.row i := by
  obtain ⟨B, b, o⟩ := h.ex
  rw [o.low i (by rw [b.next]; exact hi), b.row i hs]
theorem Dq.shift {cv : Value} {nb si : Nat} {H H' : AH} {L : List Th} (h : Dq cv nb si H H' L) {i : Nat} (hi : i < H.next) (cs : List Value) : ∃ B, B.next = H.next ∧ Ow B (H'.setCells i cs) L := by
  obtain ⟨B, b, o⟩ := h.ex
  have hb := b.next
  refine ⟨⟨B.next, fun j => (H'.setCells i cs).row j⟩, hb, o.sc.set _ _, o.next, fun j hj => rfl, ?_⟩
  obtain ⟨w, hw⟩ := o.own
  refine ⟨w, fun k p hk => p.loc H' _ _ _ (fun j hj => hj) (fun j r hj hr => ?_) (hw k p hk)⟩
  have : B.next ≤ j := hj.1
  rw [AH.setCells_row, if_neg (by omega)]; exact hr
theorem Dq.rsx {cv : Value} {nb si : Nat} {H H' : AH} {L : List Th} (d : Dq cv nb si H H' L) (hsi : si < H.next) (k : Nat) {z n : Nat} {ty : TypeId} {v : Value} {l : List Int} (hk : L[k]? = some (.cap z ty v n (ints l))) : RsX si z H' v n l := fun H2 h2 => by
  obtain ⟨B, b, o⟩ := d.ex
  obtain ⟨S, hS, hp⟩ := o.at hk
  have hp2 := (Th.cap z ty v n (ints l)).loc H' H2 S S (fun _ h => h) (fun i r hi hr => h2 i r (by have := (hS i hi).1; have := b.next; omega) hr) hp
  refine ⟨cap_rs hp2, fun i o u m c e => ?_⟩
  rcases hp2.2 with ⟨_, h1⟩ | ⟨i', rest, _, h1, h3⟩
  · rw [e] at h1; cases h1
  · rw [e] at h1; cases h1
    exact ⟨_, h3, Nat.zero_le _⟩
def WithR (H : AH) (p : (Int × Int) × (Value × Value)) (H' : AH) : Prop :=
  ∃ (k : Nat) (l : List Int) (ll : List (List Int)), (-1 ≤ p.1.1 ∧ p.1.1 ≤ 15) ∧ (-4611686018427387904 ≤ p.1.2 ∧ p.1.2 ≤ 1099511627776) ∧ k ≤ 41 ∧ (∀ x, x ∈ l → -1 ≤ x ∧ x ≤ 14) ∧ ll.length ≤ 41 ∧ (∀ j, j < ll.length → (ll.getD j []).length ≤ 14 ∧ ∀ x, x ∈ ll.getD j [] → -1 ≤ x ∧ x ≤ 3) ∧ (∀ H2, (∀ i r, H.next ≤ i → H'.row i = some r → H2.row i = some r) → Rs 14 H2 p.2.1 k l ∧ Rd2 1 H2 p.2.2 ll) ∧ Ow H H' [] ∧ ∀ H2 : AH, (∀ (i : Nat) (r : Row), H.next ≤ i → H'.row i = some r → H2.row i = some r) → ∀ (i o : Nat) (s : Option Nat) (n c : Nat), p.2.1 = .slice (some ⟨i, o, s⟩) n c → ∃ r : Row, H2.row i = some r ∧ o ≤ r.cells.length
theorem Ow.capRow {B H : AH} {L : List Th} (h : Ow B H L) (k : Nat) {z n : Nat} {ty : TypeId} {v : Value} {vs : List Value} (hk : L[k]? = some (.cap z ty v n vs)) : ∀ i o s n c, v = .slice (some ⟨i, o, s⟩) n c → ∃ r, H.row i = some r ∧ o ≤ r.cells.length := by
  obtain ⟨S, _, hp⟩ := h.at hk
  intro i o s n c e
  rcases hp.2 with ⟨_, h1⟩ | ⟨i', rest, _, h1, h2⟩
  · rw [h1] at e; cases e
  · rw [h1] at e; cases e
    exact ⟨_, h2, Nat.zero_le _⟩
theorem pickM {cv : Value} {nb si : Nat} {H Hp : AH} {L : List Th} (ls : List Int) (m : Nat) (hm : ls.length = m) (hm0 : 0 < m) (hm1 : m ≤ 100) (d : Dq cv nb si H Hp L) (hsi : si < H.next) (hc : CodeX cv nb si H) (hsc : Sc H) (hnb : nb ≤ 4611686018427387904) :
    ACalls Tryz.prog 98 [.pointer (some ⟨si, 0, none⟩), .slice (some ⟨Hp.next, 0, some 1⟩) m m] (Hp.push ⟨2, true, ints ls⟩) (fun v H' => ∃ x : Int, v = .int .i64 x ∧ x ∈ ls ∧ (∀ i, i ≠ si → i < Hp.next → H'.row i = Hp.row i) ∧ Dq cv nb si H H' L) := by
  have d6 : Dq cv nb si H (Hp.push ⟨2, true, ints ls⟩) L := d.tmp _
  have d7 : Dq cv nb si H (Hp.push ⟨2, true, ints ls⟩) (L ++ [.sl 1 2 (.slice (some ⟨Hp.next, 0, some 1⟩) m m) m (ints ls)]) := d.map fun B o => o.pushSl (by rw [za2, hm, Nat.mul_one])
  refine (pickD (k := L.length) (ty := 2) (ls := ls) d7 hsi hc hsc hnb (by simp) ⟨hm0, hm1⟩).mono ?_
  rintro v H' ⟨x, h1, h2, h3⟩
  exact ⟨x, h1, h2, fun i i1 i2 => by rw [h3.row i i1, AH.push_row, if_neg (by omega)], d6.next hsi h3⟩
theorem zfY (cv : Value) (nb : Nat) (H : AH) (hnb : nb ≤ 4611686018427387904) (hc0 : CodeOk H cv nb) :
    ACalls Tryz.prog 175 [cv] H (fun r H' => ∃ p : (Int × Int) × (Value × Value), r = .tuple #[.agg #[.int .i64 p.1.1, p.2.1], p.2.2, .int .i64 p.1.2] ∧ WithR H p H') := by
  refine ACalls.wf (by kernel_rfl) fun hsc0 => za3 [.cell 2 26, .tmp 3, .tmp 4] Tryz.func175 (by kernel_rfl) rfl rfl (Nat.le_of_ble_eq_true rfl) (by kernel_rfl) ?_
  refine awp_cut5 (fun t H' => ∃ (n k ri : Nat) (a : Int) (u x : Value) (l : List Int) (ll : List (List Int)) (H1 H2 : AH), t 2 = .pointer (some ⟨H.next, 0, none⟩) ∧ t 5 = .pointer (some ⟨H1.next, 0, none⟩) ∧ t 6 = .pointer (some ⟨ri, 0, none⟩) ∧ t 7 = x ∧ t 8 = .int .i64 a ∧ (2 ≤ n ∧ n ≤ 14) ∧ k ≤ 40 ∧ VL n l ∧ (-4611686018427387904 ≤ a ∧ a ≤ 1099511627776) ∧ ll.length ≤ 41 ∧ (∀ j, j < ll.length → (ll.getD j []).length ≤ 14 ∧ ∀ x, x ∈ ll.getD j [] → -1 ≤ x ∧ x ≤ 3) ∧
    Ow H H1 [.row H.next ⟨26, true, [.int .i64 0, .slice none 0 0]⟩] ∧ Up H1.next H1 H2 ∧ Sc H2 ∧ H1.next < H2.next ∧ CodeX cv nb H1.next H2 ∧ Src cv nb H1.next H2 ∧
    Dq cv nb H1.next H2 H' [.cap 14 69 u k (ints l), .sl2 (Value.int .i64) 33 2 x ll, .row ri ⟨26, true, [.int .i64 n, u]⟩]) ?_ ?_
  · have o1 := (Ow.refl hsc0).push ⟨26, true, [.int .i64 0, .slice none 0 0]⟩
    try simp (disch := first | omega | (simp only [L3] <;> omega)) only [Sall,evalOp,init,binA_s,binE,binI,unE,convE,okNil,builtE,gv,TD.isAgg,resV,↓reduceIte,Nat.reduceEqDiff,reduceCtorEq,Nat.reduceAdd,Nat.reduceMul,Nat.reduceLeDiff,za0,za1,Int.reduceEq,Int.reduceLT,Int.reduceLE,Nat.reduceLT,tiA,tiXA, true_and]
    generalize H.push ⟨26, true, [.int .i64 0, .slice none 0 0]⟩ = H1 at o1 ⊢
    have hc1 : CodeOk H1 cv nb := by
      rcases hc0 with h | ⟨i, o, u, c, r, q1, q2, q3⟩
      · exact .inl h
      · exact .inr ⟨i, o, u, c, r, q1, o1.old hsc0 _ _ q2, q3⟩
    have hone := hc0.one
    try simp (disch := first | omega | (simp only [L3] <;> omega)) only [Sall,evalOp,init,binA_s,binE,binI,unE,convE,okNil,builtE,gv,TD.isAgg,resV,↓reduceIte,Nat.reduceEqDiff,reduceCtorEq,Nat.reduceAdd,Nat.reduceMul,Nat.reduceLeDiff,za0,za1,Int.reduceEq,Int.reduceLT,Int.reduceLE,Nat.reduceLT,tiA,tiXA, hone]
    refine (zi4 cv nb H1 hnb hc1).fin ?_
    rintro H2 ⟨up2, hsc, hsi, hs⟩
    have hc := CodeX.of hc1 o1.sc up2
    refine Holds.mp ?_
    try simp (disch := first | omega | (simp only [L3] <;> omega)) only [Sall,evalOp,init,binA_s,binE,binI,unE,convE,okNil,builtE,gv,TD.isAgg,resV,↓reduceIte,Nat.reduceEqDiff,reduceCtorEq,Nat.reduceAdd,Nat.reduceMul,Nat.reduceLeDiff,za0,za1,Int.reduceEq,Int.reduceLT,Int.reduceLE,Nat.reduceLT,tiA,tiXA, true_and]
    refine ACalls.ex4 (g := fun (n : Nat) (_ : Nat) (u : Value × Value) (_ : List Int × List (List Int)) => .tuple #[.agg #[.int .i64 n, u.1], u.2]) (l10DrawOf_c cv nb H1.next H2 hnb hs hc) ?_
    rintro n k ⟨u, x⟩ ⟨l, ll⟩ H3 ⟨hn, hk, hV, hll, hl2, d0⟩
    dsimp only at hV hll hl2 d0
    have hu := d0.capOne 0 rfl
    have hx := (d0.rd2 1 rfl).one
    have d1 := (d0.push ⟨26, true, [.int .i64 0, .slice none 0 0]⟩).putRow 2 rfl (cs' := [.int .i64 n, u])
    refine Holds.mp ?_
    try simp (disch := first | omega | (simp only [L3] <;> omega)) only [Sall,evalOp,init,binA_s,binE,binI,unE,convE,okNil,builtE,gv,TD.isAgg,resV,↓reduceIte,Nat.reduceEqDiff,reduceCtorEq,Nat.reduceAdd,Nat.reduceMul,Nat.reduceLeDiff,za0,za1,Int.reduceEq,Int.reduceLT,Int.reduceLE,Nat.reduceLT,tiA,tiXA, hu, hx, w64]
    obtain ⟨ri, eri⟩ : ∃ ri, ri = H3.next := ⟨_, rfl⟩
    rw [← eri] at d1 ⊢
    have d1 : Dq cv nb H1.next H2 ((H3.push ⟨26, true, [.int .i64 0, .slice none 0 0]⟩).setCells ri [.int .i64 n, u]) [.cap 14 69 u k (ints l), .sl2 (Value.int .i64) 33 2 x ll, .row ri ⟨26, true, [.int .i64 n, u]⟩] := d1
    generalize (H3.push ⟨26, true, [.int .i64 0, .slice none 0 0]⟩).setCells ri [.int .i64 n, u] = H4 at d1 ⊢
    refine (l01Near_c cv nb H1.next ((n : Int) - 1) H4 (by omega) hnb (d1.src hsi) (d1.code hc hsc) d1.sc).ex ?_
    rintro a H5 ⟨a1, a2, B5, b5, o5⟩
    have d2 := d1.call hsi b5 o5
    refine Holds.mp ?_
    try simp (disch := first | omega | (simp only [L3] <;> omega)) only [Sall,evalOp,init,binA_s,binE,binI,unE,convE,okNil,builtE,gv,TD.isAgg,resV,↓reduceIte,Nat.reduceEqDiff,reduceCtorEq,Nat.reduceAdd,Nat.reduceMul,Nat.reduceLeDiff,za0,za1,Int.reduceEq,Int.reduceLT,Int.reduceLE,Nat.reduceLT,tiA,tiXA, true_and]
    refine (nextD 24 d2 hsi hc hsc hnb (by omega)).ex ?_
    rintro z H6 ⟨hz, d3⟩
    have d3 : Dq cv nb H1.next H2 H6 [.cap 14 69 u k (ints l), .sl2 (Value.int .i64) 33 2 x ll, .row ri ⟨26, true, [.int .i64 n, u]⟩] := d3
    have hl3 : ∀ j, j < ll.length → (ll.getD j []).length ≤ 14 ∧ ∀ x, x ∈ ll.getD j [] → -1 ≤ x ∧ x ≤ 3 := fun j hj => ⟨(hl2 j hj).1, fun y hy => by have := (hl2 j hj).2 y hy; omega⟩
    have zz1 : zeros 1 [.int .i64 0] = [.int .i64 0] := rfl
    have zz2 : zeros 2 [.int .i64 0] = [.int .i64 0, .int .i64 0] := rfl
    have zs1 : zeros 1 [.slice none 0 0] = [.slice none 0 0] := rfl
    refine Holds.mp ?_
    by_cases c0 : (z : Int) = 0
    · have f0 : ((z : Int) == 0) = true := beq_iff_eq.2 c0
      obtain ⟨B6, b6, o6⟩ := id d3.ex
      have ob := (o6.pushSl (k := 1) (n := 1) (ty := 2) (vs := ints [0]) rfl).tmp ⟨33, true, [.slice (some ⟨H6.next, 0, some 1⟩) 1 1]⟩
      try simp (disch := first | omega | (simp only [L3] <;> omega)) only [Sall,evalOp,init,binA_s,binE,binI,unE,convE,okNil,builtE,gv,TD.isAgg,resV,↓reduceIte,Nat.reduceEqDiff,reduceCtorEq,Nat.reduceAdd,Nat.reduceMul,Nat.reduceLeDiff,za0,za1,Int.reduceEq,Int.reduceLT,Int.reduceLE,Nat.reduceLT,tiA,tiXA, f0, zz1, zs1, zaO]
      (repeat refine And.intro (by omega) ?_)
      refine ob.app2 (f := Value.int .i64) (l := [0]) 1 3 rfl rfl (by omega) rfl (by decide) (by omega) ?_
      intro v' Hb nb2 oc
      have oc2 : Ow B6 Hb ([.cap 14 69 u k (ints l), .sl2 (Value.int .i64) 33 2 v' (ll ++ [[0]]), .row ri ⟨26, true, [.int .i64 n, u]⟩] ++ [.no]) := oc
      refine ⟨n, k, ri, a, u, v', l, ll ++ [[0]], H1, H2, ?_⟩
      try simp (disch := first | omega | (simp only [L3] <;> omega)) only [Sall,evalOp,init,binA_s,binE,binI,unE,convE,okNil,builtE,gv,TD.isAgg,resV,↓reduceIte,Nat.reduceEqDiff,reduceCtorEq,Nat.reduceAdd,Nat.reduceMul,Nat.reduceLeDiff,za0,za1,Int.reduceEq,Int.reduceLT,Int.reduceLE,Nat.reduceLT,tiA,tiXA, true_and]
      exact ⟨hn, hk, hV, ⟨a1, a2⟩, by simp; omega, fun j hj => by
        by_cases hj2 : j < ll.length
        · rw [List.getD_eq_getElem?_getD, List.getElem?_append_left hj2, ← List.getD_eq_getElem?_getD]; exact hl3 j hj2
        · obtain rfl : j = ll.length := by simp at hj; omega
          have e : (ll ++ [[0]]).getD ll.length [] = [0] := by simp [List.getD_eq_getElem?_getD]
          rw [e]
          exact ⟨by simp, fun y hy => by simp at hy; omega⟩, o1, up2, hsc, hsi, hc, hs, ⟨⟨B6, b6, oc2.left⟩⟩⟩
    have f0 : ((z : Int) == 0) = false := beq_eq_false_iff_ne.2 c0
    -- nothing is done
    by_cases c1 : (z : Int) = 1
    · have f1 : ((z : Int) == 1) = true := beq_iff_eq.2 c1
      have hlx := (d3.rd2 1 rfl).len
      by_cases c2 : 0 < ll.length
      · have f2 : decide ((0 : Int) < (ll.length : Int)) = true := decide_eq_true (by omega)
        obtain ⟨B6, b6, o6⟩ := id d3.ex
        obtain ⟨xi, vs, x0, hxi, hxi2, rfl, hvr, hvl, hv0, hx1, hq⟩ := o6.get2 1 rfl (j := 0) c2
        obtain ⟨ai, ao, au, ac, ar, ax, am, eav, q1, q2, q3, q4⟩ := (d3.rd2 1 rfl).get (j := 0) c2
        cases eav
        rw [hvr] at q1
        cases q1
        have e0 : some ax = some x0 := q2.symm.trans hv0
        cases e0
        have hlx0 := q3.len
        have hm := q3.lenK1
        subst hm
        have hm14 := (hl3 0 c2).1
        have nb6 := b6.next
        by_cases c3 : 0 < (ll.getD 0 []).length
        · have f3 : decide ((0 : Int) < ((ll.getD 0 []).length : Int)) = true := decide_eq_true (by omega)
          obtain ⟨qi, hq1, hq2, hq3, rfl, hqr⟩ := hq c3
          generalize hml : (ll.getD 0 []).length = m at *
          try simp (disch := first | omega | (simp only [L3] <;> omega)) only [Sall,evalOp,init,binA_s,binE,binI,unE,convE,okNil,builtE,gv,TD.isAgg,resV,↓reduceIte,Nat.reduceEqDiff,reduceCtorEq,Nat.reduceAdd,Nat.reduceMul,Nat.reduceLeDiff,za0,za1,Int.reduceEq,Int.reduceLT,Int.reduceLE,Nat.reduceLT,tiA,tiXA, f0, f1, f2, f3, builtE, hlx, hvr, hv0, hx1, hlx0, Int.toNat_zero]
          refine ⟨by omega, by omega, ?_⟩
          refine (nextE m d3 hsi hc hsc hnb (by omega)).ex ?_
          rintro y H7 ⟨hy, les7, d4⟩
          refine Holds.mp ?_
          try simp (disch := first | omega | (simp only [L3] <;> omega)) only [Sall,evalOp,init,binA_s,binE,binI,unE,convE,okNil,builtE,gv,TD.isAgg,resV,↓reduceIte,Nat.reduceEqDiff,reduceCtorEq,Nat.reduceAdd,Nat.reduceMul,Nat.reduceLeDiff,za0,za1,Int.reduceEq,Int.reduceLT,Int.reduceLE,Nat.reduceLT,tiA,tiXA, zz2]
          refine (pickM [3, -1] 2 rfl (by omega) (by omega) d4 hsi hc hsc hnb).ex ?_
          rintro p H8 ⟨hp, hrow8, d5⟩
          have hp2 : -1 ≤ p ∧ p ≤ 3 := by
            simp only [List.mem_cons, List.not_mem_nil, or_false] at hp
            omega
          have l7 := les7.next
          have hv8 : H8.row xi = some ⟨33, true, vs⟩ := by rw [hrow8 xi (by omega) (by omega)]; exact les7.row _ _ (show xi ≠ H1.next by omega) hvr
          have hq8 : H8.row qi = some ⟨2, true, (ll.getD 0 []).map (Value.int .i64)⟩ := by rw [hrow8 qi (by omega) (by omega)]; exact les7.row _ _ (show qi ≠ H1.next by omega) hqr
          have hset : ((ll.getD 0 []).map (Value.int .i64)).set y (.int .i64 p) = ((ll.getD 0 []).set y p).map (Value.int .i64) := List.map_set.symm
          have hmm : ((ll.getD 0 []).map (Value.int .i64)).length = m := by rw [List.length_map, hml]
          have d6 := d5.map fun B o => o.set2 1 rfl c2 (l' := (ll.getD 0 []).set y p) (by rw [List.length_set]) hv8 hv0
          refine Holds.mp ?_
          try simp (disch := first | omega | (simp only [L3] <;> omega)) only [Sall,evalOp,init,binA_s,binE,binI,unE,convE,okNil,builtE,gv,TD.isAgg,resV,↓reduceIte,Nat.reduceEqDiff,reduceCtorEq,Nat.reduceAdd,Nat.reduceMul,Nat.reduceLeDiff,za0,za1,Int.reduceEq,Int.reduceLT,Int.reduceLE,Nat.reduceLT,tiA,tiXA, hq8, hset, hmm]
          refine ⟨⟨by omega, by omega⟩, by omega, n, k, ri, a, u, (.slice (some ⟨xi, 0, some 1⟩) ll.length ll.length), l, (ll.set 0 ((ll.getD 0 []).set y p)), H1, H2, ?_⟩
          try simp (disch := first | omega | (simp only [L3] <;> omega)) only [Sall,evalOp,init,binA_s,binE,binI,unE,convE,okNil,builtE,gv,TD.isAgg,resV,↓reduceIte,Nat.reduceEqDiff,reduceCtorEq,Nat.reduceAdd,Nat.reduceMul,Nat.reduceLeDiff,za0,za1,Int.reduceEq,Int.reduceLT,Int.reduceLE,Nat.reduceLT,tiA,tiXA, true_and]
          refine ⟨hn, hk, hV, ⟨a1, a2⟩, by rw [List.length_set]; omega, fun j hj => ?_, o1, up2, hsc, hsi, hc, hs, d6⟩
          rw [List.length_set] at hj
          by_cases ej : j = 0
          · subst ej
            have e : (ll.set 0 ((ll.getD 0 []).set y p)).getD 0 [] = (ll.getD 0 []).set y p := by simp [List.getD_eq_getElem?_getD, hj]
            rw [e, List.length_set]
            refine ⟨by omega, fun z hz => ?_⟩
            rcases List.mem_or_eq_of_mem_set hz with h | h
            · exact (hl3 0 hj).2 z h
            · rw [h]; exact hp2
          · have e : (ll.set 0 ((ll.getD 0 []).set y p)).getD j [] = ll.getD j [] := by
              rw [List.getD_eq_getElem?_getD, List.getElem?_set_ne (fun h => ej h.symm), ← List.getD_eq_getElem?_getD]
            rw [e]
            exact hl3 j hj
        · have f3 : decide ((0 : Int) < ((ll.getD 0 []).length : Int)) = false := decide_eq_false (by omega)
          try simp (disch := first | omega | (simp only [L3] <;> omega)) only [Sall,evalOp,init,binA_s,binE,binI,unE,convE,okNil,builtE,gv,TD.isAgg,resV,↓reduceIte,Nat.reduceEqDiff,reduceCtorEq,Nat.reduceAdd,Nat.reduceMul,Nat.reduceLeDiff,za0,za1,Int.reduceEq,Int.reduceLT,Int.reduceLE,Nat.reduceLT,tiA,tiXA, f0, f1, f2, f3, builtE, hlx, hvr, hv0, hx1, hlx0, Int.toNat_zero]
          refine ⟨by omega, ?_⟩
          refine ⟨n, k, ri, a, u, (.slice (some ⟨xi, 0, some 1⟩) ll.length ll.length), l, ll, H1, H2, ?_⟩
          try simp (disch := first | omega | (simp only [L3] <;> omega)) only [Sall,evalOp,init,binA_s,binE,binI,unE,convE,okNil,builtE,gv,TD.isAgg,resV,↓reduceIte,Nat.reduceEqDiff,reduceCtorEq,Nat.reduceAdd,Nat.reduceMul,Nat.reduceLeDiff,za0,za1,Int.reduceEq,Int.reduceLT,Int.reduceLE,Nat.reduceLT,tiA,tiXA, true_and]
          exact ⟨hn, hk, hV, ⟨a1, a2⟩, by omega, hl3, o1, up2, hsc, hsi, hc, hs, d3⟩
      · have f2 : decide ((0 : Int) < (ll.length : Int)) = false := decide_eq_false (by omega)
        try simp (disch := first | omega | (simp only [L3] <;> omega)) only [Sall,evalOp,init,binA_s,binE,binI,unE,convE,okNil,builtE,gv,TD.isAgg,resV,↓reduceIte,Nat.reduceEqDiff,reduceCtorEq,Nat.reduceAdd,Nat.reduceMul,Nat.reduceLeDiff,za0,za1,Int.reduceEq,Int.reduceLT,Int.reduceLE,Nat.reduceLT,tiA,tiXA, f0, f1, f2, builtE, hlx]
        refine ⟨n, k, ri, a, u, x, l, ll, H1, H2, ?_⟩
        try simp (disch := first | omega | (simp only [L3] <;> omega)) only [Sall,evalOp,init,binA_s,binE,binI,unE,convE,okNil,builtE,gv,TD.isAgg,resV,↓reduceIte,Nat.reduceEqDiff,reduceCtorEq,Nat.reduceAdd,Nat.reduceMul,Nat.reduceLeDiff,za0,za1,Int.reduceEq,Int.reduceLT,Int.reduceLE,Nat.reduceLT,tiA,tiXA, true_and]
        exact ⟨hn, hk, hV, ⟨a1, a2⟩, by omega, hl3, o1, up2, hsc, hsi, hc, hs, d3⟩
    have f1 : ((z : Int) == 1) = false := beq_eq_false_iff_ne.2 c1
    try simp (disch := first | omega | (simp only [L3] <;> omega)) only [Sall,evalOp,init,binA_s,binE,binI,unE,convE,okNil,builtE,gv,TD.isAgg,resV,↓reduceIte,Nat.reduceEqDiff,reduceCtorEq,Nat.reduceAdd,Nat.reduceMul,Nat.reduceLeDiff,za0,za1,Int.reduceEq,Int.reduceLT,Int.reduceLE,Nat.reduceLT,tiA,tiXA, f0, f1]
    refine ⟨n, k, ri, a, u, x, l, ll, H1, H2, ?_⟩
    try simp (disch := first | omega | (simp only [L3] <;> omega)) only [Sall,evalOp,init,binA_s,binE,binI,unE,convE,okNil,builtE,gv,TD.isAgg,resV,↓reduceIte,Nat.reduceEqDiff,reduceCtorEq,Nat.reduceAdd,Nat.reduceMul,Nat.reduceLeDiff,za0,za1,Int.reduceEq,Int.reduceLT,Int.reduceLE,Nat.reduceLT,tiA,tiXA, true_and]
    exact ⟨hn, hk, hV, ⟨a1, a2⟩, by omega, hl3, o1, up2, hsc, hsi, hc, hs, d3⟩
  · rintro t H5 ⟨n, k, ri, a, u, x, l, ll, H1, H2, h2, h5, h6, h7, h8, hn, hk, hV, ha, hll, hl3, o1, up2, hsc, hsi, hc, hs, d3⟩
    have g2 := d3.rowAt 2 rfl
    have hu := d3.capOne 0 rfl
    have hx := (d3.rd2 1 rfl).one
    try simp (disch := first | omega | (simp only [L3] <;> omega)) only [Sall,evalOp,init,binA_s,binE,binI,unE,convE,okNil,builtE,gv,TD.isAgg,resV,↓reduceIte,Nat.reduceEqDiff,reduceCtorEq,Nat.reduceAdd,Nat.reduceMul,Nat.reduceLeDiff,za0,za1,Int.reduceEq,Int.reduceLT,Int.reduceLE,Nat.reduceLT,tiA,tiXA, h5, h6, g2, hu]
    refine ACalls.ex4 (g := fun (q : Int) (_ : Nat) (u : Value) (_ : List Int) => .agg #[.int .i64 q, u]) (l01Bad_c cv nb H1.next n k u l H5 hn hk hV (d3.rsx hsi 0 rfl) hnb (d3.src hsi) (d3.code hc hsc)) ?_
    rintro q k' u' l' H6 ⟨hq, hk', hbad, L, d4, hor⟩
    have d5 := d3.bind hsi d4
    have hu' : u'.oneCell' = true := by
      rcases hor with ⟨e, _, _⟩ | h
      · rw [e]; exact hu
      · exact d4.capOne 0 h
    have b0 := (o1.rowAt 0 rfl)
    have g0 : H6.row H.next = some ⟨26, true, [.int .i64 0, .slice none 0 0]⟩ := by
      rw [d5.lowEq (by omega) (by omega), up2.row _ (by omega)]; exact b0.1
    refine Holds.mp ?_
    try simp (disch := first | omega | (simp only [L3] <;> omega)) only [Sall,evalOp,init,binA_s,binE,binI,unE,convE,okNil,builtE,gv,TD.isAgg,resV,↓reduceIte,Nat.reduceEqDiff,reduceCtorEq,Nat.reduceAdd,Nat.reduceMul,Nat.reduceLeDiff,za0,za1,Int.reduceEq,Int.reduceLT,Int.reduceLE,Nat.reduceLT,tiA,tiXA, h2, h7, h8, g0, hu', hx]
    obtain ⟨Bs, nbs, os⟩ := d5.shift (i := H.next) (by omega) [.int .i64 q, u']
    have hle := d5.le
    obtain ⟨B3, H3, o3, hold⟩ := os.alone
    refine ⟨((q, a), (u', x)), rfl, k', l', ll, hq, ha, hk', hbad, hll, hl3, fun Hx hx => ?_, Ow.of_up ⟨by show H.next ≤ H6.next; omega, fun i hi => ?_⟩ (d5.sc.set _ _), fun Hx hx => ?_⟩
    · have old : ∀ i r, H3.row i = some r → Hx.row i = some r := fun i r hr => by
        obtain ⟨h1, h2⟩ := hold i r hr
        exact hx i r (by omega) h2
      refine ⟨?_, (o3.rd2 1 rfl).same old⟩
      rcases hor with ⟨e1, e2, e3⟩ | h
      · have hh := (o3.capRs 0 rfl).same old
        rw [← e1, ← e2, ← e3] at hh
        exact hh
      · exact (o3.capRs 3 (by rw [List.getElem?_append_right (by simp)]; exact h)).same old
    · rw [AH.setCells_row, if_neg (by omega), d5.lowEq (by omega) (by omega), up2.row _ (by omega), o1.low _ hi]
    · have old : ∀ i r, H3.row i = some r → Hx.row i = some r := fun i r hr => by
        obtain ⟨h1, h2⟩ := hold i r hr
        exact hx i r (by omega) h2
      have fin : ∀ i o s n c, u' = .slice (some ⟨i, o, s⟩) n c → ∃ r, H3.row i = some r ∧ o ≤ r.cells.length := by
        rcases hor with ⟨e1, e2, e3⟩ | h
        · rw [e1]; exact Ow.capRow o3 0 rfl
        · exact Ow.capRow o3 3 (by rw [List.getElem?_append_right (by simp)]; exact h)
      intro i o s n c e
      dsimp only at e
      obtain ⟨r, h1, h2⟩ := fin i o s n c e
      exact ⟨r, old _ _ h1, h2⟩
def DrawnR (H : AH) (r : Value) (H' : AH) : Prop :=
  ∃ p : (Int × Int) × (Value × Value), r = .tuple #[.agg #[.int .i64 p.1.1, p.2.1], p.2.2] ∧ WithR H p H'
theorem Rs.later {z n : Nat} {H H' : AH} {v : Value} {l : List Int} (h : Rs z H v n l) (hs : ∀ i r, H.row i = some r → H'.row i = some r) : Rs z H' v n l := h.same hs
theorem l10Draw_c (cv : Value) (nb : Nat) (H : AH) (hnb : nb ≤ 4611686018427387904) (hc0 : CodeOk H cv nb) :
    ACalls Tryz.prog 164 [cv] H (DrawnR H) := by
  refine ACalls.wf (by kernel_rfl) fun hsc0 => za3 [.cell 2 26, .tmp 3] Tryz.func164 (by kernel_rfl) rfl rfl (Nat.le_of_ble_eq_true rfl) (by kernel_rfl) ?_
  have o1 := (Ow.refl hsc0).push ⟨26, true, [.int .i64 0, .slice none 0 0]⟩
  have hone := hc0.one
  try simp (disch := first | omega | (simp only [L3] <;> omega)) only [Sall,evalOp,init,binA_s,binE,binI,unE,convE,okNil,builtE,gv,TD.isAgg,resV,↓reduceIte,Nat.reduceEqDiff,reduceCtorEq,Nat.reduceAdd,Nat.reduceMul,Nat.reduceLeDiff,za0,za1,Int.reduceEq,Int.reduceLT,Int.reduceLE,Nat.reduceLT,tiA,tiXA, hone]
  generalize H.push ⟨26, true, [.int .i64 0, .slice none 0 0]⟩ = H1 at o1 ⊢
  have hc1 : CodeOk H1 cv nb := by
    rcases hc0 with h | ⟨i, o, u, c, r, q1, q2, q3⟩
    · exact .inl h
    · exact .inr ⟨i, o, u, c, r, q1, o1.old hsc0 _ _ q2, q3⟩
  refine (zfY cv nb H1 hnb hc1).ex ?_
  rintro ⟨⟨q, a⟩, ⟨u, x⟩⟩ H2 ⟨k, l, ll, hq, ha, hk, hb, hll, hl, hRR, o2, hZ⟩
  dsimp only at hq ha hRR hZ
  have hR := (hRR H2 fun i r _ h => h).1
  have hR2 := (hRR H2 fun i r _ h => h).2
  have hu := hR.rd.one
  have hx := hR2.one
  have g0 : H2.row H.next = some ⟨26, true, [.int .i64 0, .slice none 0 0]⟩ := by
    rw [o2.low _ (o1.rowAt 0 rfl).2.2]; exact (o1.rowAt 0 rfl).1
  have b0 := (o1.rowAt 0 rfl).2.2
  have b2 := o2.next
  have ne : ¬ H.next = H2.next := by omega
  have ne' : ¬ H2.next = H.next := by omega
  refine Holds.mp ?_
  try simp (disch := first | omega | (simp only [L3] <;> omega)) only [Sall,evalOp,init,binA_s,binE,binI,unE,convE,okNil,builtE,gv,TD.isAgg,resV,↓reduceIte,Nat.reduceEqDiff,reduceCtorEq,Nat.reduceAdd,Nat.reduceMul,Nat.reduceLeDiff,za0,za1,Int.reduceEq,Int.reduceLT,Int.reduceLE,Nat.reduceLT,tiA,tiXA, hu, hx, g0, ne, ne']
  refine ⟨((q, a), (u, x)), rfl, k, l, ll, hq, ha, hk, hb, hll, hl, fun Hx hx => hRR Hx fun i r hi hr => hx i r (by omega) ?_, Ow.of_up ⟨?_, fun i hi => ?_⟩ (((o2.sc.push _).set _ _).set _ _), fun Hx hx => hZ Hx fun i r hi hr => hx i r (by omega) (by have := o2.sc _ _ hr; rw [AH.setCells_row, if_neg (by omega), AH.setCells_row, if_neg (by omega), AH.push_row, if_neg (by omega)]; exact hr)⟩
  · have := o2.sc _ _ hr
    rw [AH.setCells_row, if_neg (by omega), AH.setCells_row, if_neg (by omega), AH.push_row, if_neg (by omega)]; exact hr
  · show H.next ≤ H2.next + 1
    omega
  · rw [AH.setCells_row, if_neg (by omega), AH.setCells_row, if_neg (by omega), AH.push_row, if_neg (by omega), o2.low _ (by omega), o1.low _ hi]
end Go.Proofs.YtpienljnoaendaaGreat.A
end

section
set_option maxRecDepth 100000
namespace Go.Proofs.YtpienljnoaendaaGreat.A
open Go Go.Abs Go.RowKit
theorem indexFuncI_c (g : FuncId) (cap : List Value) (p : Int → Bool) (v : Value) (k : Nat) (l : List Int) (H : AH) (hv : Rd 1 H v k l) (hk : k ≤ 4294967296)
    (hp : ∀ x : Int, ACalls Tryz.prog g (.int .i64 x :: cap) H (is (.bool (p x)) H)) :
    ACalls Tryz.prog 237 [v, .func (.func g) #[] cap.toArray] H (is (.int .i64 (firstI (fun i => p (l.getD i 0)) k)) H) := by
  refine za3 [.tmp 4] Tryz.func237 (by kernel_rfl) rfl rfl (Nat.le_of_ble_eq_true rfl) (by kernel_rfl) ?_
  try simp (disch := first | omega | (simp only [za2, List.length_replicate] <;> omega)) only [Sall,evalOp,init,binA_s,binE,binI,unE,convE,okNil,builtE,gv,TD.isAgg,resV,↓reduceIte,Nat.reduceEqDiff,reduceCtorEq,Nat.reduceAdd,Nat.reduceMul,Nat.reduceLeDiff,za0,za1,Int.reduceEq,Int.reduceLT,Int.reduceLE,Nat.reduceLT,tiA, builtE, hv.len]
  refine za7 (fun m t H' => ∃ a : Nat, m = k - a ∧ a ≤ k ∧ t 8 = .int .i64 a ∧ t 7 = .int .i64 k ∧ t 0 = v ∧ t 1 = .func (.func g) #[] cap.toArray ∧ H' = H ∧ (∀ x, x < a → p (l.getD x 0) = false)) k ?_ ?_
  · refine ⟨0, by omega, by omega, ?_⟩
    try simp (disch := first | omega | (simp only [za2, List.length_replicate] <;> omega)) only [Sall,evalOp,init,binA_s,binE,binI,unE,convE,okNil,builtE,gv,TD.isAgg,resV,↓reduceIte,Nat.reduceEqDiff,reduceCtorEq,Nat.reduceAdd,Nat.reduceMul,Nat.reduceLeDiff,za0,za1,Int.reduceEq,Int.reduceLT,Int.reduceLE,Nat.reduceLT,tiA, Int.natCast_zero, Nat.not_lt_zero, false_implies]
  · rintro m t H' ⟨a, hm, h14, h8, h7, h0, h1, rfl, hall⟩
    try simp (disch := first | omega | (simp only [za2, List.length_replicate] <;> omega)) only [Sall,evalOp,init,binA_s,binE,binI,unE,convE,okNil,builtE,gv,TD.isAgg,resV,↓reduceIte,Nat.reduceEqDiff,reduceCtorEq,Nat.reduceAdd,Nat.reduceMul,Nat.reduceLeDiff,za0,za1,Int.reduceEq,Int.reduceLT,Int.reduceLE,Nat.reduceLT,tiA, h8, h7]
    refine za6 (fun h => ?_) (fun h => ?_)
    · obtain ⟨i, o, u, c, r, rfl, hr, hc, hs1, hg⟩ := hv.get (by omega)
      try simp (disch := first | omega | (simp only [za2, List.length_replicate] <;> omega)) only [Sall,evalOp,init,binA_s,binE,binI,unE,convE,okNil,builtE,gv,TD.isAgg,resV,↓reduceIte,Nat.reduceEqDiff,reduceCtorEq,Nat.reduceAdd,Nat.reduceMul,Nat.reduceLeDiff,za0,za1,Int.reduceEq,Int.reduceLT,Int.reduceLE,Nat.reduceLT,tiA, h8, h7, h0, h1, hr, hs1]
      refine ⟨⟨by omega, by omega⟩, (hp _).to ?_⟩
      cases hb : p (l.getD a 0) with
      | true =>
        try simp (disch := first | omega | (simp only [za2, List.length_replicate] <;> omega)) only [Sall,evalOp,init,binA_s,binE,binI,unE,convE,okNil,builtE,gv,TD.isAgg,resV,↓reduceIte,Nat.reduceEqDiff,reduceCtorEq,Nat.reduceAdd,Nat.reduceMul,Nat.reduceLeDiff,za0,za1,Int.reduceEq,Int.reduceLT,Int.reduceLE,Nat.reduceLT,tiA, h8, h7, h0, h1, is]
        rw [zeB (p := fun i => p (l.getD i 0)) (by omega) hb hall]
      | false =>
        try simp (disch := first | omega | (simp only [za2, List.length_replicate] <;> omega)) only [Sall,evalOp,init,binA_s,binE,binI,unE,convE,okNil,builtE,gv,TD.isAgg,resV,↓reduceIte,Nat.reduceEqDiff,reduceCtorEq,Nat.reduceAdd,Nat.reduceMul,Nat.reduceLeDiff,za0,za1,Int.reduceEq,Int.reduceLT,Int.reduceLE,Nat.reduceLT,tiA, h8, h7, h0, h1, w64]
        refine ⟨k - (a + 1), by omega, a + 1, rfl, by omega, by omega, fun x hx => ?_⟩
        by_cases e : x = a
        · rw [e]; exact hb
        · exact hall x (by omega)
    · try simp (disch := first | omega | (simp only [za2, List.length_replicate] <;> omega)) only [Sall,evalOp,init,binA_s,binE,binI,unE,convE,okNil,builtE,gv,TD.isAgg,resV,↓reduceIte,Nat.reduceEqDiff,reduceCtorEq,Nat.reduceAdd,Nat.reduceMul,Nat.reduceLeDiff,za0,za1,Int.reduceEq,Int.reduceLT,Int.reduceLE,Nat.reduceLT,tiA, is]
      rw [zd4 (p := fun i => p (l.getD i 0)) fun x hx => hall x (by omega)]
theorem containsFuncI_c (g : FuncId) (cap : List Value) (p : Int → Bool) (v : Value) (k : Nat) (l : List Int) (H : AH) (hv : Rd 1 H v k l) (hk : k ≤ 4294967296)
    (hp : ∀ x : Int, ACalls Tryz.prog g (.int .i64 x :: cap) H (is (.bool (p x)) H)) :
    ACalls Tryz.prog 127 [v, .func (.func g) #[] cap.toArray] H (is (.bool ((List.range k).any fun i => p (l.getD i 0))) H) := by
  refine za3 [.tmp 4] Tryz.func127 (by kernel_rfl) rfl rfl (Nat.le_of_ble_eq_true rfl) (by kernel_rfl) ?_
  try simp (disch := first | omega | (simp only [za2, List.length_replicate] <;> omega)) only [Sall,evalOp,init,binA_s,binE,binI,unE,convE,okNil,builtE,gv,TD.isAgg,resV,↓reduceIte,Nat.reduceEqDiff,reduceCtorEq,Nat.reduceAdd,Nat.reduceMul,Nat.reduceLeDiff,za0,za1,Int.reduceEq,Int.reduceLT,Int.reduceLE,Nat.reduceLT,tiA, true_and]
  refine (indexFuncI_c g cap p v k l H hv hk hp).to ?_
  try simp (disch := first | omega | (simp only [za2, List.length_replicate] <;> omega)) only [Sall,evalOp,init,binA_s,binE,binI,unE,convE,okNil,builtE,gv,TD.isAgg,resV,↓reduceIte,Nat.reduceEqDiff,reduceCtorEq,Nat.reduceAdd,Nat.reduceMul,Nat.reduceLeDiff,za0,za1,Int.reduceEq,Int.reduceLT,Int.reduceLE,Nat.reduceLT,tiA, is, zgW]
theorem areResults1_c (x : Int) (H : AH) : ACalls Tryz.prog 294 [.int .i64 x] H (is (.bool (!decide (0 ≤ x ∧ x ≤ 2))) H) := by
  refine za3 [.tmp 2] Tryz.func294 (by kernel_rfl) rfl rfl (Nat.le_of_ble_eq_true rfl) (by kernel_rfl) ?_
  try simp (disch := first | omega | (simp only [za2, List.length_replicate] <;> omega)) only [Sall,evalOp,init,binA_s,binE,binI,unE,convE,okNil,builtE,gv,TD.isAgg,resV,↓reduceIte,Nat.reduceEqDiff,reduceCtorEq,Nat.reduceAdd,Nat.reduceMul,Nat.reduceLeDiff,za0,za1,Int.reduceEq,Int.reduceLT,Int.reduceLE,Nat.reduceLT,tiA, true_and]
  refine (zdO _ _ _ _).to ?_
  try simp (disch := first | omega | (simp only [za2, List.length_replicate] <;> omega)) only [Sall,evalOp,init,binA_s,binE,binI,unE,convE,okNil,builtE,gv,TD.isAgg,resV,↓reduceIte,Nat.reduceEqDiff,reduceCtorEq,Nat.reduceAdd,Nat.reduceMul,Nat.reduceLeDiff,za0,za1,Int.reduceEq,Int.reduceLT,Int.reduceLE,Nat.reduceLT,tiA, is]
theorem areResults_c (n : Nat) (v : Value) (k : Nat) (l : List Int) (x : Value) (ll : List (List Int)) (H : AH) (hn : n ≤ 14) (hv : Rd 14 H v k l) (hk : k ≤ 4294967296) (hx : Rd2 1 H x ll) (hl : ll.length ≤ 4294967296) (hl2 : ∀ y ∈ ll, y.length ≤ 4294967296) :
    ACalls Tryz.prog 260 [.agg #[.int .i64 n, v], x] H (is (.bool (resB n k l ll)) H) := by
  refine ACalls.wf (by kernel_rfl) fun hs => zaZ rfl (za3 [.tmp 4] Tryz.func260 (by kernel_rfl) rfl rfl (Nat.le_of_ble_eq_true rfl) (by kernel_rfl) ?_)
  have up : Up H.next H (H.push ⟨26, true, [.int .i64 n, v]⟩) := (Up.refl _ H).push (Nat.le_refl _) _
  have e1 : (H.push ⟨26, true, [.int .i64 n, v]⟩).row H.next = some ⟨26, true, [.int .i64 n, v]⟩ := by rw [AH.push_row, if_pos rfl]
  have n1 : (H.push ⟨26, true, [.int .i64 n, v]⟩).next = H.next + 1 := rfl
  by_cases hlk : ll.length ≤ k
  · have hlk' : ¬ (k : Int) < (ll.length : Int) := by omega
    try simp (disch := first | omega | (simp only [za2, List.length_replicate] <;> omega)) only [Sall,evalOp,init,binA_s,binE,binI,unE,convE,okNil,builtE,gv,TD.isAgg,resV,↓reduceIte,Nat.reduceEqDiff,reduceCtorEq,Nat.reduceAdd,Nat.reduceMul,Nat.reduceLeDiff,za0,za1,Int.reduceEq,Int.reduceLT,Int.reduceLE,Nat.reduceLT,tiA, builtE, hx.len, hv.len, hlk', decide_false]
    refine za7 (fun m t H' => ∃ a : Nat, m = ll.length - a ∧ a ≤ ll.length ∧ t 15 = .int .i64 a ∧ t 14 = .int .i64 ll.length ∧ t 13 = x ∧ t 2 = .pointer (some ⟨H.next, 0, none⟩) ∧ Up H.next H H' ∧ H.next < H'.next ∧ H'.row H.next = some ⟨26, true, [.int .i64 n, v]⟩ ∧ (∀ i, i < a → resAt n (rnd l i) (ll.getD i []) = true)) ll.length ?_ ?_
    · refine ⟨0, by omega, by omega, ?_⟩
      try simp (disch := first | omega | (simp only [za2, List.length_replicate] <;> omega)) only [Sall,evalOp,init,binA_s,binE,binI,unE,convE,okNil,builtE,gv,TD.isAgg,resV,↓reduceIte,Nat.reduceEqDiff,reduceCtorEq,Nat.reduceAdd,Nat.reduceMul,Nat.reduceLeDiff,za0,za1,Int.reduceEq,Int.reduceLT,Int.reduceLE,Nat.reduceLT,tiA, Int.natCast_zero, Nat.not_lt_zero, false_implies]
      exact ⟨up, by omega⟩
    · rintro m t H' ⟨a, hm, h14, h15, h14', h13, h2, hup, hnx, hr1, hall⟩
      try simp (disch := first | omega | (simp only [za2, List.length_replicate] <;> omega)) only [Sall,evalOp,init,binA_s,binE,binI,unE,convE,okNil,builtE,gv,TD.isAgg,resV,↓reduceIte,Nat.reduceEqDiff,reduceCtorEq,Nat.reduceAdd,Nat.reduceMul,Nat.reduceLeDiff,za0,za1,Int.reduceEq,Int.reduceLT,Int.reduceLE,Nat.reduceLT,tiA, h15, h14']
      refine za6 (fun h => ?_) (fun h => ?_)
      · have hx' : Rd2 1 H' x ll := hx.same fun i r hr => by have := hs i r hr; rw [hup.row i this, hr]
        have hv' : Rd 14 H' v k l := hv.same fun i r hr => by have := hs i r hr; rw [hup.row i this, hr]
        obtain ⟨i, o, u, c, r, y, my, rfl, hr, hy, hsx, hok⟩ := hx'.get (j := a) (by omega)
        obtain ⟨i', o', u', c', r', rfl, hr', hc', hs', hg'⟩ := hv'.get (by omega)
        have hml := hl2 _ (getD_mem (ll := ll) (a := a) (by omega))
        have hmm := hsx.lenK1
        try simp (disch := first | omega | (simp only [za2, List.length_replicate] <;> omega)) only [Sall,evalOp,init,binA_s,binE,binI,unE,convE,okNil,builtE,gv,TD.isAgg,resV,↓reduceIte,Nat.reduceEqDiff,reduceCtorEq,Nat.reduceAdd,Nat.reduceMul,Nat.reduceLeDiff,za0,za1,Int.reduceEq,Int.reduceLT,Int.reduceLE,Nat.reduceLT,tiA, h15, h14', h13, h2, hr, hy, hok]
        refine ⟨by omega, ?_⟩
        refine zaR (by kernel_rfl) (by kernel_rfl) ?_
        try simp (disch := first | omega | (simp only [za2, List.length_replicate] <;> omega)) only [Sall,evalOp,init,binA_s,binE,binI,unE,convE,okNil,builtE,gv,TD.isAgg,resV,↓reduceIte,Nat.reduceEqDiff,reduceCtorEq,Nat.reduceAdd,Nat.reduceMul,Nat.reduceLeDiff,za0,za1,Int.reduceEq,Int.reduceLT,Int.reduceLE,Nat.reduceLT,tiA, builtE, hsx.len, h15, h2, hr1, hr', hg']
        have hrl : (rnd l a).length = 14 := zbA l a k hv.1 (by omega)
        refine ⟨⟨by omega, by omega⟩, by omega, ACalls.wf (by kernel_rfl) fun hs1 => (pairs_c n (rnd l a) hrl hn H').mono ?_⟩
        rintro p H3 ⟨up3, hp⟩
        have hpl := hp.rd.len
        refine ⟨.inr (.inr (up3.le hs1)), ?_⟩
        have hsx3 : Rd 1 H3 y my (ll.getD a []) := hsx.same (up3.le hs1).row
        have hr3 : H3.row H.next = some ⟨26, true, [.int .i64 n, .slice (some ⟨i', o', u'⟩) k c']⟩ := by rw [up3.row _ hnx, hr1]
        have n3 := up3.next
        refine Holds.mp ?_
        by_cases hq : my = (pairsL (rnd l a) n).length
        · have e2 : ((my : Int) != ((pairsL (rnd l a) n).length : Int)) = false := by rw [hq]; exact bne_self_eq_false _
          try simp (disch := first | omega | (simp only [za2, List.length_replicate] <;> omega)) only [Sall,evalOp,init,binA_s,binE,binI,unE,convE,okNil,builtE,gv,TD.isAgg,resV,↓reduceIte,Nat.reduceEqDiff,reduceCtorEq,Nat.reduceAdd,Nat.reduceMul,Nat.reduceLeDiff,za0,za1,Int.reduceEq,Int.reduceLT,Int.reduceLE,Nat.reduceLT,tiA, builtE, hpl, e2, h15, h2]
          refine (containsFuncI_c 294 [] (fun z => !decide (0 ≤ z ∧ z ≤ 2)) y my _ H3 hsx3 (by omega) (fun z => areResults1_c z H3)).to ?_
          cases hb : (List.range my).any fun j => !decide (0 ≤ (ll.getD a []).getD j 0 ∧ (ll.getD a []).getD j 0 ≤ 2) with
          | true =>
            try simp (disch := first | omega | (simp only [za2, List.length_replicate] <;> omega)) only [Sall,evalOp,init,binA_s,binE,binI,unE,convE,okNil,builtE,gv,TD.isAgg,resV,↓reduceIte,Nat.reduceEqDiff,reduceCtorEq,Nat.reduceAdd,Nat.reduceMul,Nat.reduceLeDiff,za0,za1,Int.reduceEq,Int.reduceLT,Int.reduceLE,Nat.reduceLT,tiA, true_and]
            refine ⟨.inr (.inr (LE.refl _)), ?_⟩
            rw [zg5 (i := a) (by omega) (by rw [resAt_any, ← hmm, hb]; simp)]
            exact ⟨rfl, by have := hup.next; omega, fun i hi => by rw [up3.row i (by omega), hup.row i hi]⟩
          | false =>
            try simp (disch := first | omega | (simp only [za2, List.length_replicate] <;> omega)) only [Sall,evalOp,init,binA_s,binE,binI,unE,convE,okNil,builtE,gv,TD.isAgg,resV,↓reduceIte,Nat.reduceEqDiff,reduceCtorEq,Nat.reduceAdd,Nat.reduceMul,Nat.reduceLeDiff,za0,za1,Int.reduceEq,Int.reduceLT,Int.reduceLE,Nat.reduceLT,tiA, h15, h14', h13, h2, w64]
            refine ⟨.inr (.inr (LE.refl _)), ll.length - (a + 1), by omega, a + 1, rfl, by omega, by omega, ⟨by have := hup.next; omega, fun i hi => by rw [up3.row i (by omega), hup.row i hi]⟩, by omega, hr3, fun i hi => ?_⟩
            by_cases e : i = a
            · rw [e, resAt_any, ← hmm, hb, hq]; simp
            · exact hall i (by omega)
        · have e2 : ((my : Int) != ((pairsL (rnd l a) n).length : Int)) = true := by rw [bne_iff_ne]; omega
          have e3 : resAt n (rnd l a) (ll.getD a []) = false := by
            unfold resAt
            rw [← hmm, show (my == (pairsL (rnd l a) n).length) = false by simpa using hq, Bool.false_and]
          try simp (disch := first | omega | (simp only [za2, List.length_replicate] <;> omega)) only [Sall,evalOp,init,binA_s,binE,binI,unE,convE,okNil,builtE,gv,TD.isAgg,resV,↓reduceIte,Nat.reduceEqDiff,reduceCtorEq,Nat.reduceAdd,Nat.reduceMul,Nat.reduceLeDiff,za0,za1,Int.reduceEq,Int.reduceLT,Int.reduceLE,Nat.reduceLT,tiA, builtE, hpl, e2, h15, h2]
          rw [zg5 (i := a) (by omega) e3]
          exact ⟨rfl, by have := hup.next; omega, fun i hi => by rw [up3.row i (by omega), hup.row i hi]⟩
      · try simp (disch := first | omega | (simp only [za2, List.length_replicate] <;> omega)) only [Sall,evalOp,init,binA_s,binE,binI,unE,convE,okNil,builtE,gv,TD.isAgg,resV,↓reduceIte,Nat.reduceEqDiff,reduceCtorEq,Nat.reduceAdd,Nat.reduceMul,Nat.reduceLeDiff,za0,za1,Int.reduceEq,Int.reduceLT,Int.reduceLE,Nat.reduceLT,tiA, true_and]
        rw [zi5 hlk fun i hi => hall i (by omega)]
        exact ⟨rfl, hup⟩
  · have hlk' : (k : Int) < (ll.length : Int) := by omega
    try simp (disch := first | omega | (simp only [za2, List.length_replicate] <;> omega)) only [Sall,evalOp,init,binA_s,binE,binI,unE,convE,okNil,builtE,gv,TD.isAgg,resV,↓reduceIte,Nat.reduceEqDiff,reduceCtorEq,Nat.reduceAdd,Nat.reduceMul,Nat.reduceLeDiff,za0,za1,Int.reduceEq,Int.reduceLT,Int.reduceLE,Nat.reduceLT,tiA, builtE, hx.len, hv.len, hlk', decide_true]
    unfold resB
    simp only [hlk, decide_false, Bool.false_and, true_and]
    exact up
end Go.Proofs.YtpienljnoaendaaGreat.A
end

section
namespace Go.Abs
def colL (ll : List (List Int)) (i c : Nat) : List Int := (List.range c).map fun k => (ll.getD k []).getD i 0
theorem colL_length (ll : List (List Int)) (i c : Nat) : (colL ll i c).length = c := by simp [colL]
end Go.Abs
end

section
set_option maxRecDepth 100000
set_option maxHeartbeats 2000000
namespace Go.Proofs.YtpienljnoaendaaGreat.A
open Go Go.Abs Go.RowKit
end Go.Proofs.YtpienljnoaendaaGreat.A
end

section
namespace Go.Abs
end Go.Abs
end

section
namespace Go.Abs
def ixN (m a b : Nat) : Int := ((a * m + b : Nat) : Int)
def cntMx (m : Nat) (I : List Int) : List (List Int) := (List.range m).map fun a => (List.range m).map fun b => ((I.count (ixN m a b) : Nat) : Int)
/-! ### Neighbours -/
end Go.Abs
end

section
namespace Go.Abs
/-! ### Tables -/
def qd (l : List Int) (t j : Nat) : Nat := (l.getD (4 * t + j) 0).toNat
def evW (n : Nat) (q : Nat → Nat) (ws : List (Nat × Nat)) : List Int := ws.flatMap fun w => [ixN n (q w.1) (q w.2), ixN n (q w.2) (q w.1)]
def evR (n : Nat) (ws : List (Nat × Nat)) (l : List Int) (c : Nat) : List Int := (List.range c).flatMap fun t => evW n (qd l t) ws
def evA (n : Nat) (ws : List (Nat × Nat)) (R : List (List Int)) (k : Nat) : List Int := (List.range k).flatMap fun i => evR n ws (R.getD i []) ((R.getD i []).length / 4)
def tabM (n : Nat) (ws : List (Nat × Nat)) (R : List (List Int)) : List (List Int) := cntMx n (evA n ws R R.length)
/-! ### Evenings made from a base round -/
def mdX (m i : Nat) (x : Int) : Int := if x < m then (x + i) % m else x
def mdL (m i : Nat) (y : List Int) : List Int := y.map (mdX m i)
def madeL (m : Nat) (y : List Int) (k : Nat) : List (List Int) := (List.range k).map fun i => mdL m i y
theorem mdL_length (m i : Nat) (y : List Int) : (mdL m i y).length = y.length := by simp [mdL]
theorem madeL_length (m : Nat) (y : List Int) (k : Nat) : (madeL m y k).length = k := by simp [madeL]
def wP : List (Nat × Nat) := [(0, 1), (2, 3)]
end Go.Abs
end

section
set_option maxRecDepth 100000
set_option maxHeartbeats 2000000
namespace Go.Proofs.YtpienljnoaendaaGreat.A
open Go Go.Abs Go.RowKit
end Go.Proofs.YtpienljnoaendaaGreat.A
end

section
set_option maxRecDepth 100000
set_option maxHeartbeats 2000000
namespace Go.Proofs.YtpienljnoaendaaGreat.A
open Go Go.Abs Go.RowKit
end Go.Proofs.YtpienljnoaendaaGreat.A
end

section
set_option maxRecDepth 100000
set_option maxHeartbeats 2000000
namespace Go.Proofs.YtpienljnoaendaaGreat.A
open Go Go.Abs Go.RowKit
end Go.Proofs.YtpienljnoaendaaGreat.A
end

section
set_option maxRecDepth 100000
set_option maxHeartbeats 2000000
namespace Go.Proofs.YtpienljnoaendaaGreat.A
open Go Go.Abs Go.RowKit
end Go.Proofs.YtpienljnoaendaaGreat.A
end

section
namespace Go.Abs
open Go Go.RowKit
def headIs (cs : List Nat) (i : Nat) : Bool := match cs with | c :: _ => i == c | [] => false
def okPool (ops : Array Oper) (post : OT) : Nat → List Nat → List Nat → Array Bool → Bool
  | 0, cs, fs, listed => cs.isEmpty && fs.isEmpty && okOT ops post listed
  | n + 1, cs, fs, listed =>
    if cs.isEmpty && fs.isEmpty then okOT ops post listed else
    !(Region.ready .any ops listed).isEmpty && (Region.ready .any ops listed).all (fun i => headIs cs i || fs.contains i) &&
    (match cs with | c :: cs' => (!(Region.ready .any ops listed).contains c) || okPool ops post n cs' fs (listed.setIfInBounds c true) | [] => true) &&
    fs.all fun a => (!(Region.ready .any ops listed).contains a) || okPool ops post n cs (fs.erase a) (listed.setIfInBounds a true)
def okPre (ops : Array Oper) (post : OT) (cs fs : List Nat) : List Nat → Array Bool → Bool
  | [], listed => okPool ops post (cs.length + fs.length) cs fs listed
  | i :: is, listed =>
    (match ops[i]? with
     | some o => if za0 o.op = true then (Region.ready .any ops listed).contains i && Region.free .any ops listed i else Region.ready .any ops listed == [i]
     | none => false) && okPre ops post cs fs is (listed.setIfInBounds i true)
structure PoolJ (P : Program) (ops : Array Oper) (Q : T → AH → Prop) (post : OT) (J : List Nat → List Nat → T → AH → Prop) : Prop where
  call : ∀ c cs fs t H, J (c :: cs) fs t H → stepI P ops (J cs fs) c (ops.toList[c]?) t H
  free : ∀ a cs fs t H, a ∈ fs → J cs fs t H → stepI P ops (J cs (fs.erase a)) a (ops.toList[a]?) t H
  done : ∀ t H, J [] [] t H → awpT P ops Q post t H
theorem zg9 {P : Program} {ops : Array Oper} {Q : T → AH → Prop} {post : OT} {J : List Nat → List Nat → T → AH → Prop} (hJ : PoolJ P ops Q post J) : ∀ (n : Nat) (cs fs : List Nat) (listed : Array Bool) (t : T) (H : AH) (f : Nat), n + post.depth ≤ f → Closed ops listed → okPool ops post n cs fs listed = true → J cs fs t H → AAny P ops Q f listed t H
  | 0, cs, fs, listed, t, H, f, hf, hc, hok, h => by
    simp only [okPool, Bool.and_eq_true, List.isEmpty_iff] at hok
    obtain ⟨⟨rfl, rfl⟩, h3⟩ := hok
    exact zbT post listed t H f (by omega) hc h3 (hJ.done t H h)
  | n + 1, cs, fs, listed, t, H, 0, hf, hc, hok, h => by omega
  | n + 1, cs, fs, listed, t, H, f + 1, hf, hc, hok, h => by
    unfold okPool at hok
    split at hok
    · rename_i he
      simp only [Bool.and_eq_true, List.isEmpty_iff] at he
      obtain ⟨rfl, rfl⟩ := he
      exact zbT post listed t H (f + 1) (by omega) hc hok (hJ.done t H h)
    · simp only [Bool.and_eq_true] at hok
      obtain ⟨⟨⟨h1, h2⟩, h3⟩, h4⟩ := hok
      refine ⟨fun h0 => (by rw [h0] at h1; simp at h1), fun i hi => ?_⟩
      have hci : (Region.ready .any ops listed).contains i = true := by simpa using hi
      have h5 := List.all_eq_true.1 h2 i hi
      rw [Bool.or_eq_true] at h5
      rcases h5 with h5 | h5
      · cases cs with
        | nil => simp [headIs] at h5
        | cons c cs' =>
          have e : i = c := by simpa [headIs] using h5
          subst e
          simp only [hci, Bool.not_true, Bool.false_or] at h3
          exact zaQ (zc3 (hJ.call i cs' fs t H h)) fun t' H' hk => ⟨hk.1, zg9 hJ n cs' fs _ t' H' f (by omega) (hc.set hi) h3 hk.2⟩
      · have hm : i ∈ fs := List.contains_iff_mem.1 h5
        have h6 := List.all_eq_true.1 h4 i hm
        simp only [hci, Bool.not_true, Bool.false_or] at h6
        exact zaQ (zc3 (hJ.free i cs fs t H hm h)) fun t' H' hk => ⟨hk.1, zg9 hJ n cs (fs.erase i) _ t' H' f (by omega) (hc.set hi) h6 hk.2⟩
theorem zf3 {P : Program} {ops : Array Oper} {Q : T → AH → Prop} {post : OT} {J : List Nat → List Nat → T → AH → Prop} (hJ : PoolJ P ops Q post J) (cs fs : List Nat) : ∀ (is : List Nat) (listed : Array Bool) (t : T) (H : AH) (f : Nat), is.length + (cs.length + fs.length + post.depth) ≤ f → Closed ops listed → okPre ops post cs fs is listed = true → awpI P ops (J cs fs) is t H → AAny P ops Q f listed t H
  | [], listed, t, H, f, hf, hc, hok, h => zg9 hJ _ cs fs listed t H f (by simpa using hf) hc hok h
  | i :: is, listed, t, H, 0, hf, hc, hok, h => by simp at hf
  | i :: is, listed, t, H, f + 1, hf, hc, hok, h => by
    simp only [okPre, Bool.and_eq_true] at hok
    simp only [List.length_cons] at hf
    obtain ⟨h1, h2⟩ := hok
    unfold awpI at h
    cases ho : ops[i]? with
    | none => simp [ho] at h1
    | some o =>
      simp only [ho] at h1
      split at h1
      · rename_i hq
        simp only [Bool.and_eq_true] at h1
        obtain ⟨hr, hfr⟩ := h1
        have hr' : i ∈ Region.ready .any ops listed := by simpa using hr
        obtain ⟨v, hy, hk⟩ := zbN ho hq (zc3 h)
        exact zdN ho hq f listed t H hc (Region.free_spec ho hfr) hr' hy (zf3 hJ cs fs is _ _ H f (by omega) (hc.set hr') h2 hk.2)
      · have hr : Region.ready .any ops listed = [i] := by simpa using h1
        refine ⟨fun h0 => (by rw [hr] at h0; cases h0), fun j hj => ?_⟩
        have hji : j = i := by rw [hr] at hj; simpa using hj
        subst hji
        exact zaQ (zc3 h) fun t' H' hk => ⟨hk.1, zf3 hJ cs fs is _ t' H' f (by omega) (hc.set hj) h2 hk.2⟩
theorem zi7 {P : Program} {id : Nat} {ops : Array Oper} {Q : Exit → T → AH → Prop} {t : T} {H : AH} (is cs fs : List Nat) (post : OT) (hm : P.follows .mixedOrders = true) (hok : okPre ops post cs fs is (Array.replicate ops.size false) = true) (hl : is.length + (cs.length + fs.length + post.depth) ≤ ops.size)
    (J : List Nat → List Nat → T → AH → Prop) (hJ : PoolJ P ops (Q .normal) post J) (h : awpI P ops (J cs fs) is t H) : awp P (.region id ops true) Q t H := by
  intro base ρ w tmps QC hS hd hQ
  have hA := zf3 hJ cs fs is _ t H ops.size hl ⟨by simp, fun j oj hj hl => by rw [zb1] at hl; cases hl⟩ hok h
  refine wp_region_any hm (zgO ops.size _ t H ρ w.drew tmps hA ⟨hS.1.drew, hS.2.ext (zbS (base := base) (H := H) w)⟩ ?_ fun t' H' ρ' w' tmps' hq hs he hz => ?_)
  · intro o ho i hi
    have := List.all_eq_true.1 hd o ho
    simp only [hi, decide_eq_true_eq] at this
    exact this
  · exact hQ .normal t' H' ρ' w' tmps' hq hs ((zbS (base := base) (H := H) (ρ := ρ) w).trans he) hz
theorem ACalls.scf {P : Program} {f : FuncId} {args : List Value} {H : AH} {v0 : Value} {X : AH → Prop} (h : ACalls P f args H (fun v H' => v = v0 ∧ X H')) : ACalls P f args H (fun v H' => v = v0 ∧ X H' ∧ Sc H') :=
  h.sc.mono fun _ _ h => ⟨h.1.1, h.1.2, h.2⟩
end Go.Abs
end

section
set_option maxRecDepth 100000
set_option maxHeartbeats 2000000
namespace Go.Proofs.YtpienljnoaendaaGreat.A
open Go Go.Abs Go.RowKit
structure FtJ (A : AH) (n : Nat) (R : List (List Int)) (sv : Value) (cs fs : List Nat) (t : T) (H : AH) : Prop where
  hcs : cs = [1, 2] ∨ cs = [2] ∨ cs = []
  hfs : fs = [4] ∨ fs = []
  t13 : t 13 = sv
  t16 : t 16 = sv
  up : Up A.next A H
  sc : Sc H
  p1 : 1 ∉ cs → ∃ i, t 14 = .slice (some ⟨i, 0, some 1⟩) 1 1 ∧ i < H.next ∧ H.row i = some ⟨3, true, [.int .i64 1]⟩
  s2 : 2 ∉ cs → Fr2 1 33 2 A.next H.next H (t 15) (tabM n wP R)
  p4 : 4 ∉ fs → ∃ i, t 17 = .slice (some ⟨i, 0, some 1⟩) 2 2 ∧ i < H.next ∧ H.row i = some ⟨3, true, [.int .i64 2, .int .i64 3]⟩
end Go.Proofs.YtpienljnoaendaaGreat.A
end

section
set_option maxRecDepth 100000
set_option maxHeartbeats 2000000
namespace Go.Proofs.YtpienljnoaendaaGreat.A
open Go Go.Abs Go.RowKit Go.Shelf Go.Sort
end Go.Proofs.YtpienljnoaendaaGreat.A
end

section
set_option maxRecDepth 100000
set_option maxHeartbeats 2000000
namespace Go.Proofs.YtpienljnoaendaaGreat.A
open Go Go.Abs Go.RowKit
end Go.Proofs.YtpienljnoaendaaGreat.A
end

section
namespace Go.Abs
end Go.Abs
end

section
set_option maxRecDepth 100000
set_option maxHeartbeats 2000000
namespace Go.Proofs.YtpienljnoaendaaGreat.A
open Go Go.Abs Go.RowKit
end Go.Proofs.YtpienljnoaendaaGreat.A
end

section
set_option maxRecDepth 100000
set_option maxHeartbeats 2000000
namespace Go.Proofs.YtpienljnoaendaaGreat.A
open Go Go.Abs Go.RowKit
end Go.Proofs.YtpienljnoaendaaGreat.A
end

section
namespace Go.Abs
open Go Go.RowKit
theorem Ow.only {B H : AH} {L : List Th} (h : Ow B H L) (k : Nat) {p : Th} (hk : L[k]? = some p) : Ow B H [p] :=
  h.sub (fun _ => k) (fun j hj => by
    have hj : j < 1 := hj
    obtain rfl : j = 0 := by omega
    exact hk) fun i j hi hj _ => by
    have hi : i < 1 := hi
    have hj : j < 1 := hj
    omega
theorem Ow.pick2 {B H : AH} {L : List Th} (h : Ow B H L) (i j : Nat) {p q : Th} (hi : L[i]? = some p) (hj : L[j]? = some q) (hij : i ≠ j) : Ow B H [p, q] :=
  h.sub (fun x => if x = 0 then i else j) (fun x hx => by
    have hx : x < 2 := hx
    rcases x with _ | _ | x
    · exact hi
    · exact hj
    · omega) fun x y hx hy e => by
    have hx : x < 2 := hx
    have hy : y < 2 := hy
    have e : (if x = 0 then i else j) = (if y = 0 then i else j) := e
    repeat' split at e
    all_goals omega
def Th.see (Q : AH → Prop) : Th where
  p := fun H S => ∀ H' : AH, (∀ (i : Nat) (r : Row), S i → H.row i = some r → H'.row i = some r) → Q H'
  loc := fun H H' S S' hS hr h H2 h2 => h H2 fun i r hi hr' => h2 i r (hS i hi) (hr i r hi hr')
theorem Ow.sees {B H : AH} {L : List Th} (h : Ow B H L) (k : Nat) {Q : AH → Prop} (hk : L[k]? = some (.see Q)) : Q H := by
  obtain ⟨S, _, hp⟩ := h.at hk
  exact hp H fun _ _ _ h => h
theorem sl2_rd2 {ty ty' : TypeId} {v : Value} {ll : List (List Int)} {H : AH} {S : Nat → Prop} (hp : (Th.sl2 (Value.int .i64) ty ty' v ll).p H S) : Rd2 1 H v ll := by
  rcases hp with ⟨h1, h2⟩ | ⟨i, vs, o, h1, h2, h3, h4, h5, h6⟩
  · exact .inl ⟨h1, none, 0, h2, fun _ => rfl⟩
  · refine .inr ⟨i, 0, some 1, _, _, h3, h4, fun j hj => ?_⟩
    obtain ⟨x, hx, hq⟩ := h6 j hj
    have hf : (Th.sl 1 ty' x (ll.getD j []).length (ints (ll.getD j []))).p H (fun z => S z ∧ o z = j + 1) := hq
    exact ⟨x, _, by simpa using hx, (cap_rs (zhO hf)).rd⟩
def RowsOk (vs : List Value) (ll : List (List Int)) (H : AH) : Prop := vs.length = ll.length ∧ ∀ j, j < ll.length → ∃ x, vs[j]? = some x ∧ Rd 1 H x (ll.getD j []).length (ll.getD j [])
theorem RowsOk.nil (H : AH) : RowsOk [] [] H := ⟨rfl, fun j h => by simp at h⟩
theorem RowsOk.app {vs ws : List Value} {ll mm : List (List Int)} {H : AH} (h : RowsOk vs ll H) (k : RowsOk ws mm H) : RowsOk (vs ++ ws) (ll ++ mm) H := by
  refine ⟨by simp [h.1, k.1], fun j hj => ?_⟩
  rw [List.length_append] at hj
  by_cases e : j < ll.length
  · obtain ⟨y, h1, h2⟩ := h.2 j e
    have e2 : (ll ++ mm).getD j [] = ll.getD j [] := by rw [List.getD_eq_getElem?_getD, List.getD_eq_getElem?_getD, List.getElem?_append_left e]
    rw [e2]
    exact ⟨y, by rw [List.getElem?_append_left (by rw [h.1]; exact e)]; exact h1, h2⟩
  · obtain ⟨y, h1, h2⟩ := k.2 (j - ll.length) (by omega)
    have e2 : (ll ++ mm).getD j [] = mm.getD (j - ll.length) [] := by rw [List.getD_eq_getElem?_getD, List.getD_eq_getElem?_getD, List.getElem?_append_right (by omega)]
    rw [e2]
    exact ⟨y, by rw [List.getElem?_append_right (by rw [h.1]; omega), h.1]; exact h1, h2⟩
theorem RowsOk.rd2 {ty : TypeId} {vs : List Value} {ll : List (List Int)} {H : AH} {S : Nat → Prop} {u : Value} {m : Nat} (h : RowsOk vs ll H) (hp : (Th.sl 1 ty u m vs).p H S) : Rd2 1 H u ll := by
  have hm : m = ll.length := by have := hp.1; have := h.1; omega
  rcases hp.2 with ⟨h0, h1⟩ | ⟨i, _, h1, h2⟩
  · exact .inl ⟨List.eq_nil_of_length_eq_zero (by omega), none, 0, h1, fun _ => rfl⟩
  · refine .inr ⟨i, 0, some 1, _, _, by rw [h1, hm], h2, fun j hj => ?_⟩
    obtain ⟨x, hx, hr⟩ := h.2 j hj
    exact ⟨x, _, by simpa using hx, hr⟩
def Rw (u : Value) (ws : List Value) (ll : List (List Int)) (H : AH) : Prop :=
  RowsOk ws ll H ∧ ((u = .slice none 0 0 ∧ ws = []) ∨ ∃ i o s c r, u = .slice (some ⟨i, o, s⟩) ws.length c ∧ H.row i = some r ∧ o + ws.length ≤ r.cells.length ∧ seg r.cells o ws.length = ws)
theorem Rw.rd2 {u : Value} {ws : List Value} {ll : List (List Int)} {H : AH} (h : Rw u ws ll H) : Rd2 1 H u ll := by
  obtain ⟨h1, h2⟩ := h
  rcases h2 with ⟨e1, e2⟩ | ⟨i, o, s, c, r, e1, h3, h4, h5⟩
  · exact .inl ⟨List.eq_nil_of_length_eq_zero (by rw [← h1.1, e2]; rfl), none, 0, e1, fun _ => rfl⟩
  · refine .inr ⟨i, o, s, c, r, by rw [e1, h1.1], h3, fun j hj => ?_⟩
    obtain ⟨x, hx, hr⟩ := h1.2 j hj
    refine ⟨x, _, ?_, hr⟩
    rw [← h5] at hx
    simp only [seg, List.getElem?_take, List.getElem?_drop] at hx
    rw [if_pos (by rw [h1.1]; exact hj)] at hx
    exact hx
end Go.Abs
end

section
namespace Go.Abs
end Go.Abs
end

section
set_option maxRecDepth 100000
set_option maxHeartbeats 2000000
namespace Go.Proofs.YtpienljnoaendaaGreat.A
open Go Go.Abs Go.RowKit
end Go.Proofs.YtpienljnoaendaaGreat.A
end

section
set_option maxRecDepth 100000
set_option maxHeartbeats 2000000
namespace Go.Proofs.YtpienljnoaendaaGreat.A
open Go Go.Abs Go.RowKit
def EvL (ll : List (List Int)) : Prop := ll.length ≤ 64 ∧ ∀ r ∈ ll, r.length ≤ 64
theorem EvL.nil : EvL [] := ⟨by simp, by simp⟩
theorem EvL.app {ll mm : List (List Int)} (h : EvL ll) (k : EvL mm) (hl : ll.length + mm.length ≤ 64) : EvL (ll ++ mm) := ⟨by simp; omega, fun r hr => by
  rcases List.mem_append.1 hr with h1 | h1
  · exact h.2 r h1
  · exact k.2 r h1⟩
end Go.Proofs.YtpienljnoaendaaGreat.A
end

section
set_option maxRecDepth 100000
set_option maxHeartbeats 2000000
namespace Go.Proofs.YtpienljnoaendaaGreat.A
open Go Go.Abs Go.RowKit
theorem Dq.sees {cv : Value} {nb si : Nat} {H H' : AH} {L : List Th} (h : Dq cv nb si H H' L) (k : Nat) {Q : AH → Prop} (hk : L[k]? = some (.see Q)) : Q H' := by
  obtain ⟨B, b, o⟩ := h.ex
  exact o.sees k hk
theorem EvL.made {n m : Nat} {y : List Int} (hm : m ≤ 64) (hy : y.length ≤ 64) : EvL (madeL m y m) := ⟨by rw [madeL_length]; exact hm, fun r hr => by
  unfold madeL at hr
  rw [List.mem_map] at hr
  obtain ⟨i, _, rfl⟩ := hr
  rw [mdL_length]; exact hy⟩
end Go.Proofs.YtpienljnoaendaaGreat.A
end

section
set_option maxRecDepth 100000
set_option maxHeartbeats 2000000
namespace Go.Proofs.YtpienljnoaendaaGreat.A
open Go Go.Abs Go.RowKit
end Go.Proofs.YtpienljnoaendaaGreat.A
end

section
set_option maxRecDepth 100000
set_option maxHeartbeats 2000000
namespace Go.Proofs.YtpienljnoaendaaGreat.A
open Go Go.Abs Go.RowKit
theorem codeUp {cv : Value} {nb : Nat} {H H' : AH} (h : CodeOk H cv nb) (k : ∀ i r, H.row i = some r → H'.row i = some r) : CodeOk H' cv nb := by
  rcases h with h | ⟨i, o, u, c, r, q1, q2, q3⟩
  · exact .inl h
  · exact .inr ⟨i, o, u, c, r, q1, k _ _ q2, q3⟩
end Go.Proofs.YtpienljnoaendaaGreat.A
end

section
set_option maxRecDepth 100000
set_option maxHeartbeats 2000000
namespace Go.Proofs.YtpienljnoaendaaGreat.A
open Go Go.Abs Go.RowKit
theorem drawNextRound_c (cv : Value) (nb : Nat) (H : AH) (hnb : nb ≤ 4611686018427387904) (hc0 : CodeOk H cv nb) :
    ACalls Tryz.prog 50 [cv] H (DrawnR H) := by
  refine ACalls.wf (by kernel_rfl) fun hsc0 => za3 [.cell 2 26, .tmp 3] Tryz.func50 (by kernel_rfl) rfl rfl (Nat.le_of_ble_eq_true rfl) (by kernel_rfl) ?_
  have o1 := (Ow.refl hsc0).push ⟨26, true, [.int .i64 0, .slice none 0 0]⟩
  have hone := hc0.one
  try simp (disch := first | omega | (simp only [L3] <;> omega)) only [Sall,evalOp,init,binA_s,binE,binI,unE,convE,okNil,builtE,gv,TD.isAgg,resV,↓reduceIte,Nat.reduceEqDiff,reduceCtorEq,Nat.reduceAdd,Nat.reduceMul,Nat.reduceLeDiff,za0,za1,Int.reduceEq,Int.reduceLT,Int.reduceLE,Nat.reduceLT,tiA,tiXA, hone]
  generalize H.push ⟨26, true, [.int .i64 0, .slice none 0 0]⟩ = H1 at o1 ⊢
  have hc1 : CodeOk H1 cv nb := by
    rcases hc0 with h | ⟨i, o, u, c, r, q1, q2, q3⟩
    · exact .inl h
    · exact .inr ⟨i, o, u, c, r, q1, o1.old hsc0 _ _ q2, q3⟩
  refine ACalls.ex (g := fun p : (Int × Int) × (Value × Value) => .tuple #[.agg #[.int .i64 p.1.1, p.2.1], p.2.2]) (l10Draw_c cv nb H1 hnb hc1) ?_
  rintro ⟨⟨q, a⟩, ⟨u, x⟩⟩ H2 ⟨k, l, ll, hq, ha, hk, hb, hll, hl, hRR, o2, hZ⟩
  dsimp only at hq ha hRR hZ
  have hR := (hRR H2 fun i r _ h => h).1
  have hR2 := (hRR H2 fun i r _ h => h).2
  have hu := hR.rd.one
  have hx := hR2.one
  have g0 : H2.row H.next = some ⟨26, true, [.int .i64 0, .slice none 0 0]⟩ := by
    rw [o2.low _ (o1.rowAt 0 rfl).2.2]; exact (o1.rowAt 0 rfl).1
  have b0 := (o1.rowAt 0 rfl).2.2
  have b2 := o2.next
  refine Holds.mp ?_
  try simp (disch := first | omega | (simp only [L3] <;> omega)) only [Sall,evalOp,init,binA_s,binE,binI,unE,convE,okNil,builtE,gv,TD.isAgg,resV,↓reduceIte,Nat.reduceEqDiff,reduceCtorEq,Nat.reduceAdd,Nat.reduceMul,Nat.reduceLeDiff,za0,za1,Int.reduceEq,Int.reduceLT,Int.reduceLE,Nat.reduceLT,tiA,tiXA, hu, hx, g0]
  refine ⟨((q, a), (u, x)), rfl, k, l, ll, hq, ha, hk, hb, hll, hl, fun Hx hx => hRR Hx fun i r hi hr => hx i r (by omega) ?_, Ow.of_up ⟨?_, fun i hi => ?_⟩ (o2.sc.set _ _), fun Hx hx => hZ Hx fun i r hi hr => hx i r (by omega) (by have := o2.sc _ _ hr; rw [AH.setCells_row, if_neg (by omega)]; exact hr)⟩
  · have := o2.sc _ _ hr
    rw [AH.setCells_row, if_neg (by omega)]; exact hr
  · show H.next ≤ H2.next
    omega
  · rw [AH.setCells_row, if_neg (by omega), o2.low _ (by omega), o1.low _ hi]
theorem drawPointsByRound_c (cv : Value) (nb : Nat) (H : AH) (hnb : nb ≤ 4611686018427387904) (hc0 : CodeOk H cv nb) :
    ACalls Tryz.prog 56 [cv] H (fun r H' => ∃ p : (Int × Int) × (Value × Value), r = .tuple #[.agg #[.int .i64 p.1.1, p.2.1], p.2.2, .int .i64 p.1.2] ∧ WithR H p H') := by
  refine ACalls.wf (by kernel_rfl) fun hsc0 => za3 [.cell 2 26, .tmp 3, .tmp 4] Tryz.func56 (by kernel_rfl) rfl rfl (Nat.le_of_ble_eq_true rfl) (by kernel_rfl) ?_
  have o1 := (Ow.refl hsc0).push ⟨26, true, [.int .i64 0, .slice none 0 0]⟩
  have hone := hc0.one
  try simp (disch := first | omega | (simp only [L3] <;> omega)) only [Sall,evalOp,init,binA_s,binE,binI,unE,convE,okNil,builtE,gv,TD.isAgg,resV,↓reduceIte,Nat.reduceEqDiff,reduceCtorEq,Nat.reduceAdd,Nat.reduceMul,Nat.reduceLeDiff,za0,za1,Int.reduceEq,Int.reduceLT,Int.reduceLE,Nat.reduceLT,tiA,tiXA, hone]
  generalize H.push ⟨26, true, [.int .i64 0, .slice none 0 0]⟩ = H1 at o1 ⊢
  have hc1 : CodeOk H1 cv nb := by
    rcases hc0 with h | ⟨i, o, u, c, r, q1, q2, q3⟩
    · exact .inl h
    · exact .inr ⟨i, o, u, c, r, q1, o1.old hsc0 _ _ q2, q3⟩
  refine ACalls.ex (g := fun p : (Int × Int) × (Value × Value) => .tuple #[.agg #[.int .i64 p.1.1, p.2.1], p.2.2, .int .i64 p.1.2]) (zfY cv nb H1 hnb hc1) ?_
  rintro ⟨⟨q, a⟩, ⟨u, x⟩⟩ H2 ⟨k, l, ll, hq, ha, hk, hb, hll, hl, hRR, o2, hZ⟩
  dsimp only at hq ha hRR hZ
  have hR := (hRR H2 fun i r _ h => h).1
  have hR2 := (hRR H2 fun i r _ h => h).2
  have hu := hR.rd.one
  have hx := hR2.one
  have g0 : H2.row H.next = some ⟨26, true, [.int .i64 0, .slice none 0 0]⟩ := by
    rw [o2.low _ (o1.rowAt 0 rfl).2.2]; exact (o1.rowAt 0 rfl).1
  have b0 := (o1.rowAt 0 rfl).2.2
  have b2 := o2.next
  refine Holds.mp ?_
  try simp (disch := first | omega | (simp only [L3] <;> omega)) only [Sall,evalOp,init,binA_s,binE,binI,unE,convE,okNil,builtE,gv,TD.isAgg,resV,↓reduceIte,Nat.reduceEqDiff,reduceCtorEq,Nat.reduceAdd,Nat.reduceMul,Nat.reduceLeDiff,za0,za1,Int.reduceEq,Int.reduceLT,Int.reduceLE,Nat.reduceLT,tiA,tiXA, hu, hx, g0]
  refine ⟨((q, a), (u, x)), rfl, k, l, ll, hq, ha, hk, hb, hll, hl, fun Hx hx => hRR Hx fun i r hi hr => hx i r (by omega) ?_, Ow.of_up ⟨?_, fun i hi => ?_⟩ (o2.sc.set _ _), fun Hx hx => hZ Hx fun i r hi hr => hx i r (by omega) (by have := o2.sc _ _ hr; rw [AH.setCells_row, if_neg (by omega)]; exact hr)⟩
  · have := o2.sc _ _ hr
    rw [AH.setCells_row, if_neg (by omega)]; exact hr
  · show H.next ≤ H2.next
    omega
  · rw [AH.setCells_row, if_neg (by omega), o2.low _ (by omega), o1.low _ hi]
theorem drawPointsBetween_c (cv : Value) (nb : Nat) (H : AH) (hnb : nb ≤ 4611686018427387904) (hc0 : CodeOk H cv nb) :
    ACalls Tryz.prog 53 [cv] H (fun r H' => ∃ p : Int × ((Int × Int) × (Value × Value)), r = .tuple #[.agg #[.int .i64 p.2.1.1, p.2.2.1], p.2.2.2, .int .i64 p.2.1.2, .int .i64 p.1] ∧ (-4611686018427387904 ≤ p.1 ∧ p.1 ≤ 1099511627776) ∧ WithR H p.2 H') := by
  refine ACalls.wf (by kernel_rfl) fun hsc0 => za3 [.cell 2 26, .tmp 3, .tmp 4, .tmp 5] Tryz.func53 (by kernel_rfl) rfl rfl (Nat.le_of_ble_eq_true rfl) (by kernel_rfl) ?_
  have o1 := (Ow.refl hsc0).push ⟨26, true, [.int .i64 0, .slice none 0 0]⟩
  have hone := hc0.one
  have b0 := (o1.rowAt 0 rfl)
  try simp (disch := first | omega | (simp only [L3] <;> omega)) only [Sall,evalOp,init,binA_s,binE,binI,unE,convE,okNil,builtE,gv,TD.isAgg,resV,↓reduceIte,Nat.reduceEqDiff,reduceCtorEq,Nat.reduceAdd,Nat.reduceMul,Nat.reduceLeDiff,za0,za1,Int.reduceEq,Int.reduceLT,Int.reduceLE,Nat.reduceLT,tiA,tiXA, hone]
  generalize H.push ⟨26, true, [.int .i64 0, .slice none 0 0]⟩ = H1 at o1 b0 ⊢
  have hc1 : CodeOk H1 cv nb := codeUp hc0 (o1.old hsc0)
  refine (zi4 cv nb H1 hnb hc1).fin ?_
  rintro H2 ⟨up2, hsc, hsi, hs⟩
  have hc := CodeX.of hc1 o1.sc up2
  refine Holds.mp ?_
  try simp (disch := first | omega | (simp only [L3] <;> omega)) only [Sall,evalOp,init,binA_s,binE,binI,unE,convE,okNil,builtE,gv,TD.isAgg,resV,↓reduceIte,Nat.reduceEqDiff,reduceCtorEq,Nat.reduceAdd,Nat.reduceMul,Nat.reduceLeDiff,za0,za1,Int.reduceEq,Int.reduceLT,Int.reduceLE,Nat.reduceLT,tiA,tiXA, hone]
  refine (zfY cv nb H2 hnb hc.now).ex ?_
  rintro ⟨⟨q, a0⟩, ⟨u, x⟩⟩ H3 ⟨k, l, ll, hq, ha0, hk, hbl, hll, hl, hr, o3, hZ⟩
  dsimp only at hq ha0 hr hZ
  have hu := (hr H3 fun _ _ _ h => h).1.rd.one
  have hx := (hr H3 fun _ _ _ h => h).2.one
  have d1 := ((((Dq.start hs hsc).calls o3).push ⟨26, true, [.int .i64 0, .slice none 0 0]⟩).putRow 0 rfl (cs' := [.int .i64 q, u]))
  have b3 := o3.next
  have hr4 : ∀ Hx, (∀ i r, H2.next ≤ i → ((H3.push ⟨26, true, [.int .i64 0, .slice none 0 0]⟩).setCells H3.next [.int .i64 q, u]).row i = some r → Hx.row i = some r) → Rs 14 Hx u k l ∧ Rd2 1 Hx x ll := fun Hx hx => hr Hx fun i r hi hr => hx i r hi (by
    have := o3.sc _ _ hr
    rw [AH.setCells_row, if_neg (by omega), AH.push_row, if_neg (by omega)]; exact hr)
  have hZ4 : ∀ Hx : AH, (∀ (i : Nat) (r : Row), H2.next ≤ i → ((H3.push ⟨26, true, [.int .i64 0, .slice none 0 0]⟩).setCells H3.next [.int .i64 q, u]).row i = some r → Hx.row i = some r) → ∀ (i o : Nat) (s : Option Nat) (n c : Nat), u = .slice (some ⟨i, o, s⟩) n c → ∃ r : Row, Hx.row i = some r ∧ o ≤ r.cells.length := fun Hx hx => hZ Hx fun i r hi hr => hx i r hi (by
    have := o3.sc _ _ hr
    rw [AH.setCells_row, if_neg (by omega), AH.push_row, if_neg (by omega)]; exact hr)
  obtain ⟨ri, eri⟩ : ∃ ri, ri = H3.next := ⟨_, rfl⟩
  refine Holds.mp ?_
  try simp (disch := first | omega | (simp only [L3] <;> omega)) only [Sall,evalOp,init,binA_s,binE,binI,unE,convE,okNil,builtE,gv,TD.isAgg,resV,↓reduceIte,Nat.reduceEqDiff,reduceCtorEq,Nat.reduceAdd,Nat.reduceMul,Nat.reduceLeDiff,za0,za1,Int.reduceEq,Int.reduceLT,Int.reduceLE,Nat.reduceLT,tiA,tiXA, hu, hx]
  have d1 : Dq cv nb H1.next H2 ((H3.push ⟨26, true, [.int .i64 0, .slice none 0 0]⟩).setCells H3.next [.int .i64 q, u]) [.row H3.next ⟨26, true, [.int .i64 q, u]⟩] := d1
  rw [← eri] at d1 hr4 hZ4 ⊢
  generalize (H3.push ⟨26, true, [.int .i64 0, .slice none 0 0]⟩).setCells ri [.int .i64 q, u] = H4 at d1 hr4 hZ4 ⊢
  have g1 := d1.rowAt 0 rfl
  have nri : ¬ ri = H1.next := by have := b3; omega
  have nh : ¬ H.next = H1.next := by omega
  refine zc9 (fun j => j ≠ H1.next) [0, 1, 2, 3, 4, 5, 6, 7, 8, 9, 10, 11, 12, 13] (by kernel_rfl) (by kernel_rfl) (by kernel_rfl) ?_
  try simp (disch := first | omega | (simp only [L3] <;> omega)) only [Sall,evalOp,init,binA_s,binE,binI,unE,convE,okNil,builtE,gv,TD.isAgg,resV,↓reduceIte,Nat.reduceEqDiff,reduceCtorEq,Nat.reduceAdd,Nat.reduceMul,Nat.reduceLeDiff,za0,za1,Int.reduceEq,Int.reduceLT,Int.reduceLE,Nat.reduceLT,tiA,tiXA, zaM, zaG, za8, loadOk, g1, hu, hx, nri, builtE, w64]
  refine ⟨.inr (.inr (LE.les (LE.refl _))), ?_⟩
  try simp (disch := first | omega | (simp only [L3] <;> omega)) only [Sall,evalOp,init,binA_s,binE,binI,unE,convE,okNil,builtE,gv,TD.isAgg,resV,↓reduceIte,Nat.reduceEqDiff,reduceCtorEq,Nat.reduceAdd,Nat.reduceMul,Nat.reduceLeDiff,za0,za1,Int.reduceEq,Int.reduceLT,Int.reduceLE,Nat.reduceLT,tiA,tiXA, zaM, zaG, za8, loadOk, g1, hu, hx, nri, builtE, w64]
  refine ⟨.inr (.inr (LE.les (LE.refl _))), ?_⟩
  try simp (disch := first | omega | (simp only [L3] <;> omega)) only [Sall,evalOp,init,binA_s,binE,binI,unE,convE,okNil,builtE,gv,TD.isAgg,resV,↓reduceIte,Nat.reduceEqDiff,reduceCtorEq,Nat.reduceAdd,Nat.reduceMul,Nat.reduceLeDiff,za0,za1,Int.reduceEq,Int.reduceLT,Int.reduceLE,Nat.reduceLT,tiA,tiXA, zaM, zaG, za8, loadOk, g1, hu, hx, nri, builtE, w64]
  refine (l01Near_c cv nb H1.next _ H4 (by (repeat' split) <;> omega) hnb (d1.src hsi) (d1.code hc hsc) d1.sc).ex ?_
  rintro a H5 ⟨a1, a2, B5, b5, o5⟩
  have d2 := d1.call hsi b5 o5
  have g0 : H5.row H.next = some ⟨26, true, [.int .i64 0, .slice none 0 0]⟩ := by
    rw [d2.lowEq (by omega) (by omega), up2.row _ (by omega)]; exact b0.1
  refine ⟨.inr (.inr (les_of b5 o5 d1.sc)), ?_⟩
  try simp (disch := first | omega | (simp only [L3] <;> omega)) only [Sall,evalOp,init,binA_s,binE,binI,unE,convE,okNil,builtE,gv,TD.isAgg,resV,↓reduceIte,Nat.reduceEqDiff,reduceCtorEq,Nat.reduceAdd,Nat.reduceMul,Nat.reduceLeDiff,za0,za1,Int.reduceEq,Int.reduceLT,Int.reduceLE,Nat.reduceLT,tiA,tiXA, zaM, zaG, za8, loadOk, hu, hx, g0, nh]
  have hle := d2.le
  have k5 : ∀ i r, i ≠ H1.next → H4.row i = some r → H5.row i = some r := fun i r hi hr => by
    rw [o5.low i (by have := d1.sc _ _ hr; have := b5.next; omega), b5.row i hi]; exact hr
  refine ⟨.inr (.inl (by kernel_rfl)), (a, ((q, a0), (u, x))), rfl, ⟨a1, a2⟩, k, l, ll, hq, ha0, hk, hbl, hll, hl, fun Hx hx => hr4 Hx fun i r hi hr => hx i r (by omega) ?_, Ow.of_up ⟨by show H.next ≤ H5.next; omega, fun i hi => ?_⟩ (d2.sc.set _ _), fun Hx hx => hZ4 Hx fun i r hi hr => hx i r (by omega) (by rw [AH.setCells_row, if_neg (by omega)]; exact k5 i r (by omega) hr)⟩
  · rw [AH.setCells_row, if_neg (by omega)]; exact k5 i r (by omega) hr
  · rw [AH.setCells_row, if_neg (by omega), d2.lowEq (by omega) (by omega), up2.row _ (by omega), o1.low _ hi]
end Go.Proofs.YtpienljnoaendaaGreat.A
end

section
set_option maxRecDepth 100000
set_option maxHeartbeats 2000000
namespace Go.Proofs.YtpienljnoaendaaGreat.A
open Go Go.Abs Go.RowKit
theorem hasInt_c (v : Value) (a : Int) (n : Nat) (l : List Int) (H : AH) (hn : n ≤ 4294967296) (hv : Rd 1 H v n l) : ACalls Tryz.prog 63 [v, .int .i64 a] H (is (.bool (decide (a ∈ l))) H) := by
  refine za3 [.tmp 4] Tryz.func63 (by kernel_rfl) rfl rfl (Nat.le_of_ble_eq_true rfl) (by kernel_rfl) ?_
  have hln := hv.len
  have hl := hv.lenK1
  try simp (disch := first | omega | (simp only [L3] <;> omega)) only [Sall,evalOp,init,binA_s,binE,binI,unE,convE,okNil,builtE,gv,TD.isAgg,resV,↓reduceIte,Nat.reduceEqDiff,reduceCtorEq,Nat.reduceAdd,Nat.reduceMul,Nat.reduceLeDiff,za0,za1,Int.reduceEq,Int.reduceLT,Int.reduceLE,Nat.reduceLT,tiA,tiXA, true_and]
  refine za7 (fun z t H' => H' = H ∧ ∃ j : Nat, z = n - j ∧ j ≤ n ∧ t 5 = .int .i64 j ∧ t 1 = .int .i64 a ∧ t 0 = v ∧ ∀ i, i < j → l.getD i 0 ≠ a) n ?_ ?_
  · refine ⟨rfl, 0, by omega, by omega, ?_⟩
    try simp (disch := first | omega | (simp only [L3] <;> omega)) only [Sall,evalOp,init,binA_s,binE,binI,unE,convE,okNil,builtE,gv,TD.isAgg,resV,↓reduceIte,Nat.reduceEqDiff,reduceCtorEq,Nat.reduceAdd,Nat.reduceMul,Nat.reduceLeDiff,za0,za1,Int.reduceEq,Int.reduceLT,Int.reduceLE,Nat.reduceLT,tiA,tiXA, Int.natCast_zero]
    try exact fun i hi => by omega
  · rintro z t H' ⟨rfl, j, hz, hj, h5, h1, h0, hno⟩
    try simp (disch := first | omega | (simp only [L3] <;> omega)) only [Sall,evalOp,init,binA_s,binE,binI,unE,convE,okNil,builtE,gv,TD.isAgg,resV,↓reduceIte,Nat.reduceEqDiff,reduceCtorEq,Nat.reduceAdd,Nat.reduceMul,Nat.reduceLeDiff,za0,za1,Int.reduceEq,Int.reduceLT,Int.reduceLE,Nat.reduceLT,tiA,tiXA, h5, h0, hln, builtE]
    refine za6 (fun hh => ?_) (fun hh => ?_)
    · obtain ⟨ai, ao, au, ac, ar, rfl, a1, a2, a3, a4⟩ := hv.get (by omega)
      have a5 := a3 j (by omega)
      by_cases c : l.getD j 0 = a
      · have e : (l.getD j 0 == a) = true := beq_iff_eq.2 c
        have hm : decide (a ∈ l) = true := decide_eq_true (by
          rw [← c, List.getD_eq_getElem?_getD, List.getElem?_eq_getElem (by omega)]
          exact List.getElem_mem _)
        try simp (disch := first | omega | (simp only [L3] <;> omega)) only [Sall,evalOp,init,binA_s,binE,binI,unE,convE,okNil,builtE,gv,TD.isAgg,resV,↓reduceIte,Nat.reduceEqDiff,reduceCtorEq,Nat.reduceAdd,Nat.reduceMul,Nat.reduceLeDiff,za0,za1,Int.reduceEq,Int.reduceLT,Int.reduceLE,Nat.reduceLT,tiA,tiXA, h5, h1, h0, a1, a5, e, w64]
        (repeat refine And.intro (by omega) ?_)
        first | exact ⟨by rw [hm], rfl⟩ | exact ⟨by omega, by rw [hm], rfl⟩
      · have e : (l.getD j 0 == a) = false := beq_eq_false_iff_ne.2 c
        try simp (disch := first | omega | (simp only [L3] <;> omega)) only [Sall,evalOp,init,binA_s,binE,binI,unE,convE,okNil,builtE,gv,TD.isAgg,resV,↓reduceIte,Nat.reduceEqDiff,reduceCtorEq,Nat.reduceAdd,Nat.reduceMul,Nat.reduceLeDiff,za0,za1,Int.reduceEq,Int.reduceLT,Int.reduceLE,Nat.reduceLT,tiA,tiXA, h5, h1, h0, a1, a5, e, w64]
        (repeat refine And.intro (by omega) ?_)
        try simp (disch := first | omega | (simp only [L3] <;> omega)) only [Sall,evalOp,init,binA_s,binE,binI,unE,convE,okNil,builtE,gv,TD.isAgg,resV,↓reduceIte,Nat.reduceEqDiff,reduceCtorEq,Nat.reduceAdd,Nat.reduceMul,Nat.reduceLeDiff,za0,za1,Int.reduceEq,Int.reduceLT,Int.reduceLE,Nat.reduceLT,tiA,tiXA, h5, h1, h0, a1, a5, e, w64]
        exact ⟨n - (j + 1), by omega, j + 1, rfl, by omega, rfl, fun i hi => by
          by_cases h : i = j
          · rw [h]; exact c
          · exact hno i (by omega)⟩
    · have hm : decide (a ∈ l) = false := decide_eq_false (fun hm => by
        obtain ⟨i, hi, e⟩ := List.getElem_of_mem hm
        refine hno i (by omega) ?_
        rw [List.getD_eq_getElem?_getD, List.getElem?_eq_getElem hi]; exact e)
      try simp (disch := first | omega | (simp only [L3] <;> omega)) only [Sall,evalOp,init,binA_s,binE,binI,unE,convE,okNil,builtE,gv,TD.isAgg,resV,↓reduceIte,Nat.reduceEqDiff,reduceCtorEq,Nat.reduceAdd,Nat.reduceMul,Nat.reduceLeDiff,za0,za1,Int.reduceEq,Int.reduceLT,Int.reduceLE,Nat.reduceLT,tiA,tiXA, true_and]
      exact ⟨by rw [hm], rfl⟩
end Go.Proofs.YtpienljnoaendaaGreat.A
end

section
set_option maxRecDepth 100000
namespace Go.Proofs.YtpienljnoaendaaGreat.A
open Go Go.Abs Go.RowKit
theorem l10Is_c (n : Nat) (v : Value) (k : Nat) (l : List Int) (x : Value) (ll : List (List Int)) (H : AH) (hn : n ≤ 14) (hv : Rd 14 H v k l) (hk : k ≤ 4294967296) (hx : Rd2 1 H x ll) (hl : ll.length ≤ 4294967296) (hl2 : ∀ y ∈ ll, y.length ≤ 4294967296) :
    ACalls Tryz.prog 268 [.agg #[.int .i64 n, v], x] H (is (.bool (resB n k l ll)) H) := by
  refine ACalls.wf (by kernel_rfl) fun hs => zaZ rfl (za3 [.tmp 4] Tryz.func268 (by kernel_rfl) rfl rfl (Nat.le_of_ble_eq_true rfl) (by kernel_rfl) ?_)
  have up : Up H.next H (H.push ⟨26, true, [.int .i64 n, v]⟩) := (Up.refl _ H).push (Nat.le_refl _) _
  have n1 : (H.push ⟨26, true, [.int .i64 n, v]⟩).next = H.next + 1 := rfl
  by_cases hlk : ll.length ≤ k
  · have hlk' : ¬ (k : Int) < (ll.length : Int) := by omega
    try simp (disch := first | omega | (simp only [za2, List.length_replicate] <;> omega)) only [Sall,evalOp,init,binA_s,binE,binI,unE,convE,okNil,builtE,gv,TD.isAgg,resV,↓reduceIte,Nat.reduceEqDiff,reduceCtorEq,Nat.reduceAdd,Nat.reduceMul,Nat.reduceLeDiff,za0,za1,Int.reduceEq,Int.reduceLT,Int.reduceLE,Nat.reduceLT,tiA, builtE, hx.len, hv.len, hlk', decide_false]
    refine za7 (fun m t H' => ∃ a : Nat, m = ll.length - a ∧ a ≤ ll.length ∧ t 5 = .int .i64 a ∧ t 1 = x ∧ t 2 = .pointer (some ⟨H.next, 0, none⟩) ∧ Up H.next H H' ∧ H.next < H'.next ∧ H'.row H.next = some ⟨26, true, [.int .i64 n, v]⟩ ∧ (∀ i, i < a → resAt n (rnd l i) (ll.getD i []) = true)) ll.length ?_ ?_
    · refine ⟨0, by omega, by omega, ?_⟩
      try simp (disch := first | omega | (simp only [za2, List.length_replicate] <;> omega)) only [Sall,evalOp,init,binA_s,binE,binI,unE,convE,okNil,builtE,gv,TD.isAgg,resV,↓reduceIte,Nat.reduceEqDiff,reduceCtorEq,Nat.reduceAdd,Nat.reduceMul,Nat.reduceLeDiff,za0,za1,Int.reduceEq,Int.reduceLT,Int.reduceLE,Nat.reduceLT,tiA, Int.natCast_zero, Nat.not_lt_zero, false_implies]
      exact ⟨up, by omega⟩
    · rintro m t H' ⟨a, hm, h14, h5, h1, h2, hup, hnx, hr1, hall⟩
      have hxl := hx.len
      try simp (disch := first | omega | (simp only [za2, List.length_replicate] <;> omega)) only [Sall,evalOp,init,binA_s,binE,binI,unE,convE,okNil,builtE,gv,TD.isAgg,resV,↓reduceIte,Nat.reduceEqDiff,reduceCtorEq,Nat.reduceAdd,Nat.reduceMul,Nat.reduceLeDiff,za0,za1,Int.reduceEq,Int.reduceLT,Int.reduceLE,Nat.reduceLT,tiA, h5, h1, builtE, hx.len]
      refine za6 (fun h => ?_) (fun h => ?_)
      · have hx' : Rd2 1 H' x ll := hx.same fun i r hr => by have := hs i r hr; rw [hup.row i this, hr]
        have hv' : Rd 14 H' v k l := hv.same fun i r hr => by have := hs i r hr; rw [hup.row i this, hr]
        obtain ⟨i, o, u, c, r, y, my, rfl, hr, hy, hsx, hok⟩ := hx'.get (j := a) (by omega)
        obtain ⟨i', o', u', c', r', rfl, hr', hc', hs', hg'⟩ := hv'.get (by omega)
        have hml := hl2 _ (getD_mem (ll := ll) (a := a) (by omega))
        have hmm := hsx.lenK1
        have hlh := hup.next
        have hrl : (rnd l a).length = 14 := zbA l a k hv.1 (by omega)
        refine zaR (by kernel_rfl) (by kernel_rfl) ?_
        try simp (disch := first | omega | (simp only [za2, List.length_replicate] <;> omega)) only [Sall,evalOp,init,binA_s,binE,binI,unE,convE,okNil,builtE,gv,TD.isAgg,resV,↓reduceIte,Nat.reduceEqDiff,reduceCtorEq,Nat.reduceAdd,Nat.reduceMul,Nat.reduceLeDiff,za0,za1,Int.reduceEq,Int.reduceLT,Int.reduceLE,Nat.reduceLT,tiA, h5, h1, h2, hr, hy, hok, hsx.len, hr1, hr', hg', builtE]
        refine ⟨⟨by omega, by omega⟩, ⟨by omega, by omega⟩, by omega, ACalls.wf (by kernel_rfl) fun hs1 => (zcP n (rnd l a) hrl hn H').mono ?_⟩
        rintro p H3 ⟨up3, hp⟩
        have hpl := hp.rd.len
        refine ⟨.inr (.inr (up3.le hs1)), ?_⟩
        have hsx3 : Rd 1 H3 y my (ll.getD a []) := hsx.same (up3.le hs1).row
        have hr3 : H3.row H.next = some ⟨26, true, [.int .i64 n, .slice (some ⟨i', o', u'⟩) k c']⟩ := by rw [up3.row _ hnx, hr1]
        have n3 := up3.next
        have hri : H3.row i = some r := (up3.le hs1).row _ _ hr
        refine Holds.mp ?_
        by_cases hq : my = (pairsL (rnd l a) n).length
        · have e2 : ((my : Int) != ((pairsL (rnd l a) n).length : Int)) = false := by rw [hq]; exact bne_self_eq_false _
          try simp (disch := first | omega | (simp only [za2, List.length_replicate] <;> omega)) only [Sall,evalOp,init,binA_s,binE,binI,unE,convE,okNil,builtE,gv,TD.isAgg,resV,↓reduceIte,Nat.reduceEqDiff,reduceCtorEq,Nat.reduceAdd,Nat.reduceMul,Nat.reduceLeDiff,za0,za1,Int.reduceEq,Int.reduceLT,Int.reduceLE,Nat.reduceLT,tiA, builtE, hpl, e2]
          refine za7 (fun z t H' => ∃ b : Nat, z = my - b ∧ b ≤ my ∧ t 6 = .int .i64 b ∧ t 5 = .int .i64 a ∧ t 1 = .slice (some ⟨i, o, u⟩) ll.length c ∧ t 2 = .pointer (some ⟨H.next, 0, none⟩) ∧ H' = H3 ∧ (∀ j, j < b → (0 ≤ (ll.getD a []).getD j 0 ∧ (ll.getD a []).getD j 0 ≤ 2))) my ?_ ?_
          · refine ⟨0, by omega, by omega, ?_⟩
            try simp (disch := first | omega | (simp only [za2, List.length_replicate] <;> omega)) only [Sall,evalOp,init,binA_s,binE,binI,unE,convE,okNil,builtE,gv,TD.isAgg,resV,↓reduceIte,Nat.reduceEqDiff,reduceCtorEq,Nat.reduceAdd,Nat.reduceMul,Nat.reduceLeDiff,za0,za1,Int.reduceEq,Int.reduceLT,Int.reduceLE,Nat.reduceLT,tiA, Int.natCast_zero, Nat.not_lt_zero, false_implies, h5, h1, h2]
          · rintro z t H4 ⟨b, hz, hb, h6, h5, h1, h2, rfl, hin⟩
            try simp (disch := first | omega | (simp only [za2, List.length_replicate] <;> omega)) only [Sall,evalOp,init,binA_s,binE,binI,unE,convE,okNil,builtE,gv,TD.isAgg,resV,↓reduceIte,Nat.reduceEqDiff,reduceCtorEq,Nat.reduceAdd,Nat.reduceMul,Nat.reduceLeDiff,za0,za1,Int.reduceEq,Int.reduceLT,Int.reduceLE,Nat.reduceLT,tiA, h6, h5, h1, hri, hy, hok, builtE, hsx3.len]
            refine ⟨⟨by omega, by omega⟩, ?_⟩
            refine za6 (fun hh => ?_) (fun hh => ?_)
            · obtain ⟨i7, o7, u7, c7, r7, rfl, hr7, hc7, hs7, hg7⟩ := hsx3.get (by omega)
              have g1 := hs7 b (by omega)
              try simp (disch := first | omega | (simp only [za2, List.length_replicate] <;> omega)) only [Sall,evalOp,init,binA_s,binE,binI,unE,convE,okNil,builtE,gv,TD.isAgg,resV,↓reduceIte,Nat.reduceEqDiff,reduceCtorEq,Nat.reduceAdd,Nat.reduceMul,Nat.reduceLeDiff,za0,za1,Int.reduceEq,Int.reduceLT,Int.reduceLE,Nat.reduceLT,tiA, h6, h5, h1, hri, hy, hok, hr7, g1]
              refine ⟨⟨by omega, by omega⟩, ⟨by omega, by omega⟩, (zgS _ _ _ _).to ?_⟩
              by_cases hin2 : 0 ≤ (ll.getD a []).getD b 0 ∧ (ll.getD a []).getD b 0 ≤ 2
              · try simp (disch := first | omega | (simp only [za2, List.length_replicate] <;> omega)) only [Sall,evalOp,init,binA_s,binE,binI,unE,convE,okNil,builtE,gv,TD.isAgg,resV,↓reduceIte,Nat.reduceEqDiff,reduceCtorEq,Nat.reduceAdd,Nat.reduceMul,Nat.reduceLeDiff,za0,za1,Int.reduceEq,Int.reduceLT,Int.reduceLE,Nat.reduceLT,tiA, hin2, decide_true, Bool.not_true, h6, w64]
                refine ⟨my - (b + 1), by omega, b + 1, rfl, by omega, by omega, h5, h1, h2, fun j hj => ?_⟩
                by_cases e : j = b
                · rw [e]; exact hin2
                · exact hin j (by omega)
              · try simp (disch := first | omega | (simp only [za2, List.length_replicate] <;> omega)) only [Sall,evalOp,init,binA_s,binE,binI,unE,convE,okNil,builtE,gv,TD.isAgg,resV,↓reduceIte,Nat.reduceEqDiff,reduceCtorEq,Nat.reduceAdd,Nat.reduceMul,Nat.reduceLeDiff,za0,za1,Int.reduceEq,Int.reduceLT,Int.reduceLE,Nat.reduceLT,tiA, hin2, decide_false, Bool.not_false]
                rw [zg5 (i := a) (by omega) (by unfold resAt; rw [zc4 (i := b) (by omega) (decide_eq_false hin2), Bool.and_false])]
                exact ⟨rfl, by omega, fun i hi => by rw [up3.row i (by omega), hup.row i hi]⟩
            · try simp (disch := first | omega | (simp only [za2, List.length_replicate] <;> omega)) only [Sall,evalOp,init,binA_s,binE,binI,unE,convE,okNil,builtE,gv,TD.isAgg,resV,↓reduceIte,Nat.reduceEqDiff,reduceCtorEq,Nat.reduceAdd,Nat.reduceMul,Nat.reduceLeDiff,za0,za1,Int.reduceEq,Int.reduceLT,Int.reduceLE,Nat.reduceLT,tiA, h5, w64]
              refine ⟨ll.length - (a + 1), by omega, a + 1, rfl, by omega, by omega, h1, h2, ⟨by omega, fun i hi => by rw [up3.row i (by omega), hup.row i hi]⟩, by omega, hr3, fun i hi => ?_⟩
              by_cases e : i = a
              · rw [e]; unfold resAt
                rw [zcJ (fun j hj => decide_eq_true (hin j (by omega))), Bool.and_true, ← hmm, hq]; simp
              · exact hall i (by omega)
        · have e2 : ((my : Int) != ((pairsL (rnd l a) n).length : Int)) = true := by rw [bne_iff_ne]; omega
          have e3 : resAt n (rnd l a) (ll.getD a []) = false := by
            unfold resAt
            rw [← hmm, show (my == (pairsL (rnd l a) n).length) = false by simpa using hq, Bool.false_and]
          try simp (disch := first | omega | (simp only [za2, List.length_replicate] <;> omega)) only [Sall,evalOp,init,binA_s,binE,binI,unE,convE,okNil,builtE,gv,TD.isAgg,resV,↓reduceIte,Nat.reduceEqDiff,reduceCtorEq,Nat.reduceAdd,Nat.reduceMul,Nat.reduceLeDiff,za0,za1,Int.reduceEq,Int.reduceLT,Int.reduceLE,Nat.reduceLT,tiA, builtE, hpl, e2]
          rw [zg5 (i := a) (by omega) e3]
          exact ⟨rfl, by omega, fun i hi => by rw [up3.row i (by omega), hup.row i hi]⟩
      · try simp (disch := first | omega | (simp only [za2, List.length_replicate] <;> omega)) only [Sall,evalOp,init,binA_s,binE,binI,unE,convE,okNil,builtE,gv,TD.isAgg,resV,↓reduceIte,Nat.reduceEqDiff,reduceCtorEq,Nat.reduceAdd,Nat.reduceMul,Nat.reduceLeDiff,za0,za1,Int.reduceEq,Int.reduceLT,Int.reduceLE,Nat.reduceLT,tiA, true_and]
        rw [zi5 hlk fun i hi => hall i (by omega)]
        exact ⟨rfl, hup⟩
  · have hlk' : (k : Int) < (ll.length : Int) := by omega
    try simp (disch := first | omega | (simp only [za2, List.length_replicate] <;> omega)) only [Sall,evalOp,init,binA_s,binE,binI,unE,convE,okNil,builtE,gv,TD.isAgg,resV,↓reduceIte,Nat.reduceEqDiff,reduceCtorEq,Nat.reduceAdd,Nat.reduceMul,Nat.reduceLeDiff,za0,za1,Int.reduceEq,Int.reduceLT,Int.reduceLE,Nat.reduceLT,tiA, builtE, hx.len, hv.len, hlk', decide_true]
    unfold resB
    simp only [hlk, decide_false, Bool.false_and, true_and]
    exact up
theorem zh6 (H : AH) : ACalls Tryz.prog 105 [] H (is (.bool true) H) := by
  refine za3 [.tmp 0] Tryz.func105 (by kernel_rfl) rfl rfl (Nat.le_of_ble_eq_true rfl) (by kernel_rfl) ?_
  try simp (disch := first | omega | (simp only [za2, List.length_replicate] <;> omega)) only [Sall,evalOp,init,binA_s,binE,binI,unE,convE,okNil,builtE,gv,TD.isAgg,resV,↓reduceIte,Nat.reduceEqDiff,reduceCtorEq,Nat.reduceAdd,Nat.reduceMul,Nat.reduceLeDiff,za0,za1,Int.reduceEq,Int.reduceLT,Int.reduceLE,Nat.reduceLT,tiA, is]
def codeS (q : Int) (k : Nat) (l : List Int) (b : Bool) : Int := if schedB q k l = true then (if b = true then 0 else 2) else 1
theorem zdK (q : Int) (v : Value) (k : Nat) (l : List Int) (g : FuncId) (cap : List Value) (b : Bool) (H : AH) (hv : Rd 14 H v k l) (hk : k ≤ 4294967296)
    (hg : ∀ H', Up H.next H H' → schedB q k l = true → ACalls Tryz.prog g cap H' (is (.bool b) H')) :
    ACalls Tryz.prog 104 [.agg #[.int .i64 q, v], .func (.func g) #[] cap.toArray] H (is (.int .i64 (codeS q k l b)) H) := by
  refine ACalls.wf (by kernel_rfl) fun hs => zaZ rfl (za3 [.tmp 4] Tryz.func104 (by kernel_rfl) rfl rfl (Nat.le_of_ble_eq_true rfl) (by kernel_rfl) ?_)
  have up : Up H.next H (H.push ⟨26, true, [.int .i64 q, v]⟩) := (Up.refl _ H).push (Nat.le_refl _) _
  have e1 : (H.push ⟨26, true, [.int .i64 q, v]⟩).row H.next = some ⟨26, true, [.int .i64 q, v]⟩ := by rw [AH.push_row, if_pos rfl]
  have hv1 := hv.same (up.le hs).row
  have hone := hv.one
  try simp (disch := first | omega | (simp only [za2, List.length_replicate] <;> omega)) only [Sall,evalOp,init,binA_s,binE,binI,unE,convE,okNil,builtE,gv,TD.isAgg,resV,↓reduceIte,Nat.reduceEqDiff,reduceCtorEq,Nat.reduceAdd,Nat.reduceMul,Nat.reduceLeDiff,za0,za1,Int.reduceEq,Int.reduceLT,Int.reduceLE,Nat.reduceLT,tiA, true_and]
  refine (IsSchedule_c q v k l _ hv1 hk).to ?_
  unfold codeS
  by_cases hb : schedB q k l = true
  · try simp (disch := first | omega | (simp only [za2, List.length_replicate] <;> omega)) only [Sall,evalOp,init,binA_s,binE,binI,unE,convE,okNil,builtE,gv,TD.isAgg,resV,↓reduceIte,Nat.reduceEqDiff,reduceCtorEq,Nat.reduceAdd,Nat.reduceMul,Nat.reduceLeDiff,za0,za1,Int.reduceEq,Int.reduceLT,Int.reduceLE,Nat.reduceLT,tiA, hb, Bool.not_true]
    refine (hg _ up hb).to ?_
    cases b with
    | true =>
      try simp (disch := first | omega | (simp only [za2, List.length_replicate] <;> omega)) only [Sall,evalOp,init,binA_s,binE,binI,unE,convE,okNil,builtE,gv,TD.isAgg,resV,↓reduceIte,Nat.reduceEqDiff,reduceCtorEq,Nat.reduceAdd,Nat.reduceMul,Nat.reduceLeDiff,za0,za1,Int.reduceEq,Int.reduceLT,Int.reduceLE,Nat.reduceLT,tiA, Bool.not_true]
      rw [if_pos hb]
      exact ⟨rfl, up⟩
    | false =>
      try simp (disch := first | omega | (simp only [za2, List.length_replicate] <;> omega)) only [Sall,evalOp,init,binA_s,binE,binI,unE,convE,okNil,builtE,gv,TD.isAgg,resV,↓reduceIte,Nat.reduceEqDiff,reduceCtorEq,Nat.reduceAdd,Nat.reduceMul,Nat.reduceLeDiff,za0,za1,Int.reduceEq,Int.reduceLT,Int.reduceLE,Nat.reduceLT,tiA, Bool.not_false]
      rw [if_pos hb]
      exact ⟨rfl, up⟩
  · have hb' : schedB q k l = false := by simpa using hb
    try simp (disch := first | omega | (simp only [za2, List.length_replicate] <;> omega)) only [Sall,evalOp,init,binA_s,binE,binI,unE,convE,okNil,builtE,gv,TD.isAgg,resV,↓reduceIte,Nat.reduceEqDiff,reduceCtorEq,Nat.reduceAdd,Nat.reduceMul,Nat.reduceLeDiff,za0,za1,Int.reduceEq,Int.reduceLT,Int.reduceLE,Nat.reduceLT,tiA, hb', Bool.not_false]
    exact up
end Go.Proofs.YtpienljnoaendaaGreat.A
end

section
set_option maxRecDepth 100000
namespace Go.Proofs.YtpienljnoaendaaGreat.A
open Go Go.Abs Go.RowKit
theorem won_cases (z : Int) : ((z == 1) = true ∧ (z == 2) = false ∧ wonI z = 2) ∨ ((z == 1) = false ∧ (z == 2) = true ∧ wonI z = 0) ∨ ((z == 1) = false ∧ (z == 2) = false ∧ wonI z = 1) := by
  unfold wonI
  by_cases h1 : z = 1
  · subst h1; exact .inl ⟨rfl, rfl, rfl⟩
  · by_cases h2 : z = 2
    · subst h2; exact .inr (.inl ⟨rfl, rfl, rfl⟩)
    · exact .inr (.inr ⟨beq_eq_false_iff_ne.2 h1, beq_eq_false_iff_ne.2 h2, by rw [if_neg h1, if_neg h2]⟩)
theorem games_c (n : Nat) (v : Value) (k : Nat) (l : List Int) (x : Value) (ll : List (List Int)) (g : FuncId) (cap : List Value) (S : List Ev → AH → Prop) (B H : AH)
    (hb : schedB n k l = true) (hres : resB n k l ll = true) (S0 : S [] H) (hl : ll.length ≤ 4294967296)
    (hv : Rd 14 B v k l) (hx : Rd2 1 B x ll) (hSr : ∀ es H', S es H' → ∀ i r, B.row i = some r → H'.row i = some r)
    (hSt : ∀ es H1 H2, S es H1 → H1.next ≤ H2.next → (∀ i, i < H.next → H2.row i = H1.row i) → S es H2)
    (hstep : ∀ es (rd : Nat) (p q o : Int) H1, S es H1 → H.next ≤ H1.next → rd < ll.length → (0 ≤ p ∧ p < n) → (0 ≤ q ∧ q < n) → (0 ≤ o ∧ o ≤ 2) →
      ACalls Tryz.prog g (.int .i64 rd :: .int .i64 p :: .int .i64 q :: .int .i64 o :: cap) H1 (fun _ H2 => S (es ++ [(rd, p, q, o)]) H2 ∧ H1.next ≤ H2.next ∧ ∀ i, H.next ≤ i → i < H1.next → H2.row i = H1.row i)) :
    ACalls Tryz.prog 177 [.agg #[.int .i64 n, v], x, .func (.func g) #[] cap.toArray] H (fun _ H' => S (meets n l ll ll.length) H' ∧ H.next ≤ H'.next) := by
  refine za3 [] Tryz.func177 (by kernel_rfl) rfl rfl (Nat.le_of_ble_eq_true rfl) (by kernel_rfl) ?_
  obtain ⟨hn, hk40, hrounds⟩ := zaC hb
  obtain ⟨hlk, hrs⟩ := zcY hres
  have hone := hv.one
  have e1 : (H.push ⟨26, true, [.int .i64 n, v]⟩).row H.next = some ⟨26, true, [.int .i64 n, v]⟩ := by rw [AH.push_row, if_pos rfl]
  have n1 : (H.push ⟨26, true, [.int .i64 n, v]⟩).next = H.next + 1 := rfl
  have hx0 := hx
  try simp (disch := first | omega | (simp only [za2, List.length_replicate] <;> omega)) only [Sall,evalOp,init,binA_s,binE,binI,unE,convE,okNil,builtE,gv,TD.isAgg,resV,↓reduceIte,Nat.reduceEqDiff,reduceCtorEq,Nat.reduceAdd,Nat.reduceMul,Nat.reduceLeDiff,za0,za1,Int.reduceEq,Int.reduceLT,Int.reduceLE,Nat.reduceLT,tiA, hone, builtE, hx0.len]
  refine za7 (fun m t H' => ∃ a : Nat, m = ll.length - a ∧ a ≤ ll.length ∧ t 13 = .int .i64 a ∧ t 12 = .int .i64 ll.length ∧ t 11 = x ∧ t 2 = .func (.func g) #[] cap.toArray ∧ t 3 = .pointer (some ⟨H.next, 0, none⟩) ∧ H.next < H'.next ∧ H'.row H.next = some ⟨26, true, [.int .i64 n, v]⟩ ∧ S (meets n l ll a) H') ll.length ?_ ?_
  · refine ⟨0, by omega, by omega, ?_⟩
    try simp (disch := first | omega | (simp only [za2, List.length_replicate] <;> omega)) only [Sall,evalOp,init,binA_s,binE,binI,unE,convE,okNil,builtE,gv,TD.isAgg,resV,↓reduceIte,Nat.reduceEqDiff,reduceCtorEq,Nat.reduceAdd,Nat.reduceMul,Nat.reduceLeDiff,za0,za1,Int.reduceEq,Int.reduceLT,Int.reduceLE,Nat.reduceLT,tiA, Int.natCast_zero, zbW]
    exact ⟨by omega, hSt _ _ _ S0 (by omega) fun i hi => by rw [AH.push_row, if_neg (by omega)]⟩
  · rintro m t H' ⟨a, hm, h14, h13, h12, h11, h2, h3, hnx, hr1, hS⟩
    try simp (disch := first | omega | (simp only [za2, List.length_replicate] <;> omega)) only [Sall,evalOp,init,binA_s,binE,binI,unE,convE,okNil,builtE,gv,TD.isAgg,resV,↓reduceIte,Nat.reduceEqDiff,reduceCtorEq,Nat.reduceAdd,Nat.reduceMul,Nat.reduceLeDiff,za0,za1,Int.reduceEq,Int.reduceLT,Int.reduceLE,Nat.reduceLT,tiA, h13, h12]
    refine za6 (fun h => ?_) (fun h => ?_)
    · obtain ⟨i, o, u, c, r, y, my, ex, hrB, hy, hsx, hok⟩ := hx.get (j := a) (by omega)
      obtain ⟨i', o', u', c', r', ev, hrB', hc', hs', hg'⟩ := hv.get (by omega)
      have hr := hSr _ _ hS _ _ hrB
      have hr' := hSr _ _ hS _ _ hrB'
      have hmm := hsx.lenK1
      obtain ⟨hlen, hvals⟩ := hrs a (by omega)
      have hrl : (rnd l a).length = 14 := zbA l a k hv.1 (by omega)
      try simp (disch := first | omega | (simp only [za2, List.length_replicate] <;> omega)) only [Sall,evalOp,init,binA_s,binE,binI,unE,convE,okNil,builtE,gv,TD.isAgg,resV,↓reduceIte,Nat.reduceEqDiff,reduceCtorEq,Nat.reduceAdd,Nat.reduceMul,Nat.reduceLeDiff,za0,za1,Int.reduceEq,Int.reduceLT,Int.reduceLE,Nat.reduceLT,tiA, h13, h12, h11, ex, hr, hy, hok]
      refine ⟨⟨by omega, by omega⟩, ?_⟩
      refine draw_in [0, 1, 2, 3, 4, 5, 6, 9, 7, 8] (by kernel_rfl) (by kernel_rfl) rfl ?_
      try simp (disch := first | omega | (simp only [za2, List.length_replicate] <;> omega)) only [Sall,evalOp,init,binA_s,binE,binI,unE,convE,okNil,builtE,gv,TD.isAgg,resV,↓reduceIte,Nat.reduceEqDiff,reduceCtorEq,Nat.reduceAdd,Nat.reduceMul,Nat.reduceLeDiff,za0,za1,Int.reduceEq,Int.reduceLT,Int.reduceLE,Nat.reduceLT,tiA, h3, hr1, ev, hr', hg', builtE]
      refine ⟨⟨by omega, by omega⟩, by omega, ACalls.wf (by kernel_rfl) fun hs1 => (pairs_c n (rnd l a) hrl (by omega) H').mono ?_⟩
      rintro p H3 ⟨up3, hp⟩
      have hpl := hp.rd.len
      refine ⟨.inr (.inr (up3.le hs1)), ?_⟩
      have n3 := up3.next
      have hr3 : H3.row H.next = some ⟨26, true, [.int .i64 n, .slice (some ⟨i', o', u'⟩) k c']⟩ := by rw [up3.row _ hnx, hr1, ev]
      have hS3 : S (meets n l ll a) H3 := hSt _ _ _ hS n3 fun i hi => up3.row i (by omega)
      have hplen := zbE (rnd l a) n
      have hround := hrounds a (by omega)
      refine Holds.mp ?_
      try simp (disch := first | omega | (simp only [za2, List.length_replicate] <;> omega)) only [Sall,evalOp,init,binA_s,binE,binI,unE,convE,okNil,builtE,gv,TD.isAgg,resV,↓reduceIte,Nat.reduceEqDiff,reduceCtorEq,Nat.reduceAdd,Nat.reduceMul,Nat.reduceLeDiff,za0,za1,Int.reduceEq,Int.reduceLT,Int.reduceLE,Nat.reduceLT,tiA, builtE, hpl, h13, h12, h11, h2, h3]
      refine za7 (fun z t H4 => ∃ b : Nat, z = (pairsL (rnd l a) n).length - b ∧ b ≤ (pairsL (rnd l a) n).length ∧ t 27 = .int .i64 b ∧ t 26 = .int .i64 (pairsL (rnd l a) n).length ∧ t 25 = p ∧ t 6 = .int .i64 a ∧ t 7 = y ∧ t 13 = .int .i64 a ∧ t 12 = .int .i64 ll.length ∧ t 11 = x ∧ t 2 = .func (.func g) #[] cap.toArray ∧ t 3 = .pointer (some ⟨H.next, 0, none⟩) ∧ H3.next ≤ H4.next ∧ H4.row H.next = some ⟨26, true, [.int .i64 n, v]⟩ ∧
          Fr2 1 33 2 H'.next H3.next H4 p (pairsL (rnd l a) n) ∧ S (meets n l ll a ++ zaL n a (rnd l a) (ll.getD a []) b) H4) (pairsL (rnd l a) n).length ?_ ?_
      · refine ⟨0, by omega, by omega, ?_⟩
        try simp (disch := first | omega | (simp only [za2, List.length_replicate] <;> omega)) only [Sall,evalOp,init,binA_s,binE,binI,unE,convE,okNil,builtE,gv,TD.isAgg,resV,↓reduceIte,Nat.reduceEqDiff,reduceCtorEq,Nat.reduceAdd,Nat.reduceMul,Nat.reduceLeDiff,za0,za1,Int.reduceEq,Int.reduceLT,Int.reduceLE,Nat.reduceLT,tiA, Int.natCast_zero, zc5, List.append_nil, h13, h12, h11, h2, h3, ex]
        exact ⟨hr3.trans (by rw [ev]), hp, hS3⟩
      · rintro z t H4 ⟨b, hz, hbp, h27, h26, h25, h6, h7, h13, h12, h11, h2, h3, hn4, hr4, hp4, hS4⟩
        try simp (disch := first | omega | (simp only [za2, List.length_replicate] <;> omega)) only [Sall,evalOp,init,binA_s,binE,binI,unE,convE,okNil,builtE,gv,TD.isAgg,resV,↓reduceIte,Nat.reduceEqDiff,reduceCtorEq,Nat.reduceAdd,Nat.reduceMul,Nat.reduceLeDiff,za0,za1,Int.reduceEq,Int.reduceLT,Int.reduceLE,Nat.reduceLT,tiA, h27, h26]
        refine za6 (fun hh => ?_) (fun hh => ?_)
        · obtain ⟨pi, pvs, px, pm, pb, pc, rfl, q1, q2, q3, q4, q5, q6, q7, q8⟩ := hp4.getF (j := b) (by omega)
          have hpm := q8.lenK1
          obtain ⟨aa, ha1, ha2, ha3⟩ := zbD (rnd l a) n b (by omega)
          obtain ⟨_, ha4, ha5, _⟩ := zb3 hround (a := aa) (by omega)
          obtain ⟨i5, o5, u5, c5, r5, rfl, gB, g2, g3, _⟩ := hsx.get (by omega)
          have g1 := hSr _ _ hS4 _ _ gB
          have g4 := g3 b (by omega)
          rw [ha3] at q8 hpm
          simp only [List.length_cons, List.length_nil] at hpm
          obtain rfl : pm = 2 := hpm
          obtain ⟨i6, w1, w2, rfl, w3⟩ := q8.get (by omega)
          have evs0 : meets n l ll a ++ zaL n a (rnd l a) (ll.getD a []) (b + 1) = ((meets n l ll a ++ zaL n a (rnd l a) (ll.getD a []) b) ++ [(a, (aa : Int), (rnd l a).getD aa 0, wonI ((ll.getD a []).getD b 0))]) ++ [(a, (rnd l a).getD aa 0, (aa : Int), 2 - wonI ((ll.getD a []).getD b 0))] := by
            rw [zbL, ha3]; simp [evPair]
          have i0 : (ints [(aa : Int), (rnd l a).getD aa 0])[Int.toNat 0]? = some (.int .i64 aa) := rfl
          have i1 : (ints [(aa : Int), (rnd l a).getD aa 0])[Int.toNat 1]? = some (.int .i64 ((rnd l a).getD aa 0)) := rfl
          have st1 := fun o (ho : 0 ≤ o ∧ o ≤ 2) => hstep _ a (aa : Int) ((rnd l a).getD aa 0) o H4 hS4 (by omega) (by omega) (by omega) (by omega) ho
          refine Holds.mp ?_
          rcases won_cases ((ll.getD a []).getD b 0) with ⟨f1, f2, fw⟩ | ⟨f1, f2, fw⟩ | ⟨f1, f2, fw⟩ <;> rw [fw] at evs0 <;> rw [zcW]
          all_goals
            try simp (disch := first | omega | (simp only [za2, List.length_replicate] <;> omega)) only [Sall,evalOp,init,binA_s,binE,binI,unE,convE,okNil,builtE,gv,TD.isAgg,resV,↓reduceIte,Nat.reduceEqDiff,reduceCtorEq,Nat.reduceAdd,Nat.reduceMul,Nat.reduceLeDiff,za0,za1,Int.reduceEq,Int.reduceLT,Int.reduceLE,Nat.reduceLT,tiA, h27, h26, h25, h6, h7, q3, q5, g1, g4, f1, f2]
            refine ⟨⟨by omega, by omega⟩, ⟨by omega, by omega⟩, ?_⟩
            refine zaR (by kernel_rfl) (by kernel_rfl) ?_
            try simp (disch := first | omega | (simp only [za2, List.length_replicate] <;> omega)) only [Sall,evalOp,init,binA_s,binE,binI,unE,convE,okNil,builtE,gv,TD.isAgg,resV,↓reduceIte,Nat.reduceEqDiff,reduceCtorEq,Nat.reduceAdd,Nat.reduceMul,Nat.reduceLeDiff,za0,za1,Int.reduceEq,Int.reduceLT,Int.reduceLE,Nat.reduceLT,tiA, h27, h6, h2, w3, i0, i1]
            refine ⟨by omega, by omega, (st1 _ (by omega)).mono ?_⟩
            rintro _ H5 ⟨hS5, n5, s5⟩
            refine ⟨.inr (.inl (by kernel_rfl)), ?_⟩
            have w5 : H5.row i6 = some ⟨2, true, ints [(aa : Int), (rnd l a).getD aa 0]⟩ := by rw [s5 _ (by omega) (by omega), w3]
            refine Holds.mp ?_
            try simp (disch := first | omega | (simp only [za2, List.length_replicate] <;> omega)) only [Sall,evalOp,init,binA_s,binE,binI,unE,convE,okNil,builtE,gv,TD.isAgg,resV,↓reduceIte,Nat.reduceEqDiff,reduceCtorEq,Nat.reduceAdd,Nat.reduceMul,Nat.reduceLeDiff,za0,za1,Int.reduceEq,Int.reduceLT,Int.reduceLE,Nat.reduceLT,tiA, h27, h6, h2]
            refine zaR (by kernel_rfl) (by kernel_rfl) ?_
            try simp (disch := first | omega | (simp only [za2, List.length_replicate] <;> omega)) only [Sall,evalOp,init,binA_s,binE,binI,unE,convE,okNil,builtE,gv,TD.isAgg,resV,↓reduceIte,Nat.reduceEqDiff,reduceCtorEq,Nat.reduceAdd,Nat.reduceMul,Nat.reduceLeDiff,za0,za1,Int.reduceEq,Int.reduceLT,Int.reduceLE,Nat.reduceLT,tiA, h27, h6, h2, w5, i0, i1, w64]
            refine ⟨by omega, by omega, (hstep _ a ((rnd l a).getD aa 0) (aa : Int) _ H5 hS5 (by omega) (by omega) (by omega) (by omega) (by omega)).mono ?_⟩
            rintro _ H6 ⟨hS6, n6, s6⟩
            refine ⟨.inr (.inl (by kernel_rfl)), ?_⟩
            refine Holds.mp ?_
            try simp (disch := first | omega | (simp only [za2, List.length_replicate] <;> omega)) only [Sall,evalOp,init,binA_s,binE,binI,unE,convE,okNil,builtE,gv,TD.isAgg,resV,↓reduceIte,Nat.reduceEqDiff,reduceCtorEq,Nat.reduceAdd,Nat.reduceMul,Nat.reduceLeDiff,za0,za1,Int.reduceEq,Int.reduceLT,Int.reduceLE,Nat.reduceLT,tiA, h27, h26, h6, h7, h13, h12, h11, h2, h3, w64]
            refine ⟨(pairsL (rnd l a) n).length - (b + 1), by omega, b + 1, rfl, by omega, by omega, h25, by omega, ?_, ?_, ?_⟩
            · rw [s6 _ (by omega) (by omega), s5 _ (by omega) (by omega), hr4]
            · exact hp4.same fun z hz1 hz2 => by rw [s6 _ (by omega) (by omega), s5 _ (by omega) (by omega)]
            · rw [evs0]; exact hS6
        · try simp (disch := first | omega | (simp only [za2, List.length_replicate] <;> omega)) only [Sall,evalOp,init,binA_s,binE,binI,unE,convE,okNil,builtE,gv,TD.isAgg,resV,↓reduceIte,Nat.reduceEqDiff,reduceCtorEq,Nat.reduceAdd,Nat.reduceMul,Nat.reduceLeDiff,za0,za1,Int.reduceEq,Int.reduceLT,Int.reduceLE,Nat.reduceLT,tiA, h13, h12, h11, h2, h3, w64]
          have hbb : b = (pairsL (rnd l a) n).length := by omega
          refine ⟨ll.length - (a + 1), by omega, a + 1, rfl, by omega, by omega, by omega, hr4, ?_⟩
          rw [zbH, ← hbb]; exact hS4
    · try simp (disch := first | omega | (simp only [za2, List.length_replicate] <;> omega)) only [Sall,evalOp,init,binA_s,binE,binI,unE,convE,okNil,builtE,gv,TD.isAgg,resV,↓reduceIte,Nat.reduceEqDiff,reduceCtorEq,Nat.reduceAdd,Nat.reduceMul,Nat.reduceLeDiff,za0,za1,Int.reduceEq,Int.reduceLT,Int.reduceLE,Nat.reduceLT,tiA, true_and]
      have ha : a = ll.length := by omega
      subst ha
      exact ⟨hS, by omega⟩
end Go.Proofs.YtpienljnoaendaaGreat.A
end

section
set_option maxRecDepth 100000
namespace Go.Proofs.YtpienljnoaendaaGreat.A
open Go Go.Abs Go.RowKit
theorem zcO (n : Nat) : zeros n [.int .i64 0] = ints (List.replicate n 0) := by
  have h := zgV n 1
  rw [Nat.mul_one] at h; exact h
theorem points1_c (b own : Int) (H : AH) : ACalls Tryz.prog 275 [.int .i64 b, .int .i64 own] H (is (.int .i64 own) H) := by
  refine za3 [.tmp 4] Tryz.func275 (by kernel_rfl) rfl rfl (Nat.le_of_ble_eq_true rfl) (by kernel_rfl) ?_
  try simp (disch := first | omega | (simp only [za2, List.length_replicate] <;> omega)) only [Sall,evalOp,init,binA_s,binE,binI,unE,convE,okNil,builtE,gv,TD.isAgg,resV,↓reduceIte,Nat.reduceEqDiff,reduceCtorEq,Nat.reduceAdd,Nat.reduceMul,Nat.reduceLeDiff,za0,za1,Int.reduceEq,Int.reduceLT,Int.reduceLE,Nat.reduceLT,tiA, is]
theorem second1_c (b own : Int) (pp : Nat) (pv : Value) (m : Nat) (pts : List Int) (H : AH) (hp : H.row pp = some ⟨33, true, [pv]⟩) (hv : Rd 1 H pv m pts) (hb : 0 ≤ b ∧ b < m) :
    ACalls Tryz.prog 295 [.int .i64 b, .int .i64 own, .pointer (some ⟨pp, 0, none⟩)] H (is (.int .i64 (pts.getD b.toNat 0)) H) := by
  refine za3 [.tmp 5] Tryz.func295 (by kernel_rfl) rfl rfl (Nat.le_of_ble_eq_true rfl) (by kernel_rfl) ?_
  obtain ⟨i, o, u, c, r, rfl, hr, hc, hs, _⟩ := hv.get (by omega)
  have h1 := hs b.toNat (by omega)
  try simp (disch := first | omega | (simp only [za2, List.length_replicate] <;> omega)) only [Sall,evalOp,init,binA_s,binE,binI,unE,convE,okNil,builtE,gv,TD.isAgg,resV,↓reduceIte,Nat.reduceEqDiff,reduceCtorEq,Nat.reduceAdd,Nat.reduceMul,Nat.reduceLeDiff,za0,za1,Int.reduceEq,Int.reduceLT,Int.reduceLE,Nat.reduceLT,tiA, hp, hr, h1, is]
  exact hb
theorem summed1_c (rd a b own z : Int) (g2 : FuncId) (cap2 : List Value) (oi fi i n : Nat) (outl : List Int) (H : AH) (ho : H.row oi = some ⟨33, true, [.slice (some ⟨i, 0, some 1⟩) n n]⟩)
    (hi : H.row i = some ⟨2, true, ints outl⟩) (hf : H.row fi = some ⟨203, true, [.func (.func g2) #[] cap2.toArray]⟩) (hl : outl.length = n) (ha : 0 ≤ a ∧ a < n)
    (hc : ACalls Tryz.prog g2 (.int .i64 b :: .int .i64 own :: cap2) H (is (.int .i64 z) H)) :
    ACalls Tryz.prog 299 [.int .i64 rd, .int .i64 a, .int .i64 b, .int .i64 own, .pointer (some ⟨oi, 0, none⟩), .pointer (some ⟨fi, 0, none⟩)] H (fun _ H' => H' = H.setCells i (ints (addAt outl a z))) := by
  refine za3 [] Tryz.func299 (by kernel_rfl) rfl rfl (Nat.le_of_ble_eq_true rfl) (by kernel_rfl) ?_
  refine zaR (by kernel_rfl) (by kernel_rfl) ?_
  have hc' : ACalls Tryz.prog g2 ([.int .i64 b, .int .i64 own] ++ cap2) H (is (.int .i64 z) H) := hc
  try simp (disch := first | omega | (simp only [za2, List.length_replicate] <;> omega)) only [Sall,evalOp,init,binA_s,binE,binI,unE,convE,okNil,builtE,gv,TD.isAgg,resV,↓reduceIte,Nat.reduceEqDiff,reduceCtorEq,Nat.reduceAdd,Nat.reduceMul,Nat.reduceLeDiff,za0,za1,Int.reduceEq,Int.reduceLT,Int.reduceLE,Nat.reduceLT,tiA, ho, hi, hf, ints_get?]
  refine ⟨by omega, hc'.to ?_⟩
  refine ⟨.inr (.inr (LE.refl _)), ?_⟩
  try simp (disch := first | omega | (simp only [za2, List.length_replicate] <;> omega)) only [Sall,evalOp,init,binA_s,binE,binI,unE,convE,okNil,builtE,gv,TD.isAgg,resV,↓reduceIte,Nat.reduceEqDiff,reduceCtorEq,Nat.reduceAdd,Nat.reduceMul,Nat.reduceLeDiff,za0,za1,Int.reduceEq,Int.reduceLT,Int.reduceLE,Nat.reduceLT,tiA, ho, hi, hf, zaH]
  refine ⟨by omega, by omega, .inr (.inl (by kernel_rfl)), ?_⟩
  rfl
theorem zhK (n : Nat) (v : Value) (k : Nat) (l : List Int) (x : Value) (ll : List (List Int)) (g : FuncId) (cap : List Value) (f : Int → Int → Int) (H : AH)
    (hb : schedB n k l = true) (hres : resB n k l ll = true) (hl : ll.length ≤ 4294967296) (hv : Rd 14 H v k l) (hx : Rd2 1 H x ll)
    (hc : ∀ (H' : AH) (b own : Int), Up H.next H H' → (0 ≤ b ∧ b < n) → (0 ≤ own ∧ own ≤ 2) → ACalls Tryz.prog g (.int .i64 b :: .int .i64 own :: cap) H' (is (.int .i64 (f b own)) H')) :
    ACalls Tryz.prog 274 [.agg #[.int .i64 n, v], x, .func (.func g) #[] cap.toArray] H (fun u H' => Up H.next H H' ∧ Fr 1 2 H.next H'.next H' u n (sumsF n f (meets n l ll ll.length))) := by
  refine ACalls.wf (by kernel_rfl) fun hs => za3 [.tmp 6] Tryz.func274 (by kernel_rfl) rfl rfl (Nat.le_of_ble_eq_true rfl) (by kernel_rfl) ?_
  obtain ⟨hn, hk40, hrounds⟩ := zaC hb
  have hone := hv.one
  have ne0 : ¬ H.next = H.next + 1 + 2 := by omega
  try simp (disch := first | omega | (simp only [za2, List.length_replicate] <;> omega)) only [Sall,evalOp,init,binA_s,binE,binI,unE,convE,okNil,builtE,gv,TD.isAgg,resV,↓reduceIte,Nat.reduceEqDiff,reduceCtorEq,Nat.reduceAdd,Nat.reduceMul,Nat.reduceLeDiff,za0,za1,Int.reduceEq,Int.reduceLT,Int.reduceLE,Nat.reduceLT,tiA, hone, zcO, ne0]
  refine ⟨by omega, ?_⟩
  obtain ⟨Hg, eg⟩ : ∃ Hg, Hg = ((((H.push ⟨26, true, [.int .i64 n, v]⟩).push ⟨203, true, [.func (.func g) #[] cap.toArray]⟩).push ⟨2, true, ints (List.replicate n 0)⟩).push ⟨33, true, [.slice none 0 0]⟩).setCells (H.next + 1 + 2) [.slice (some ⟨H.next + 2, 0, some 1⟩) n n] := ⟨_, rfl⟩
  have up0 : Up H.next H Hg := by rw [eg]; exact (((((Up.refl _ H).push (by omega) _).push (by simp only [AH.push_next]; omega) _).push (by simp only [AH.push_next]; omega) _).push (by simp only [AH.push_next]; omega) _).set (by omega) _
  have ng : Hg.next = H.next + 4 := by rw [eg]; rfl
  have g0 : Hg.row H.next = some ⟨26, true, [.int .i64 n, v]⟩ := by rw [eg]; simp [AH.setCells_row, AH.push_row, AH.push_next] <;> (repeat rw [if_neg (by omega)])
  have g1 : Hg.row (H.next + 1) = some ⟨203, true, [.func (.func g) #[] cap.toArray]⟩ := by rw [eg]; simp [AH.setCells_row, AH.push_row, AH.push_next] <;> (repeat rw [if_neg (by omega)])
  have g2 : Hg.row (H.next + 2) = some ⟨2, true, ints (List.replicate n 0)⟩ := by rw [eg]; simp [AH.setCells_row, AH.push_row, AH.push_next] <;> (repeat rw [if_neg (by omega)])
  have g3 : Hg.row (H.next + 3) = some ⟨33, true, [.slice (some ⟨H.next + 2, 0, some 1⟩) n n]⟩ := by rw [eg]; simp [AH.setCells_row, AH.push_row, AH.push_next] <;> (repeat rw [if_neg (by omega)])
  rw [← eg]
  clear eg
  try simp (disch := first | omega | (simp only [za2, List.length_replicate] <;> omega)) only [Sall,evalOp,init,binA_s,binE,binI,unE,convE,okNil,builtE,gv,TD.isAgg,resV,↓reduceIte,Nat.reduceEqDiff,reduceCtorEq,Nat.reduceAdd,Nat.reduceMul,Nat.reduceLeDiff,za0,za1,Int.reduceEq,Int.reduceLT,Int.reduceLE,Nat.reduceLT,tiA, g0, List.mem_cons, List.not_mem_nil, or_false, forall_eq_or_imp, forall_eq, Array.size_empty]
  refine (games_c n v k l x ll 299 [.pointer (some ⟨H.next + 3, 0, none⟩), .pointer (some ⟨H.next + 1, 0, none⟩)]
    (fun es H1 => Up H.next H H1 ∧ H.next + 4 ≤ H1.next ∧ H1.row (H.next + 1) = some ⟨203, true, [.func (.func g) #[] cap.toArray]⟩ ∧ H1.row (H.next + 2) = some ⟨2, true, ints (sumsF n f es)⟩ ∧ H1.row (H.next + 3) = some ⟨33, true, [.slice (some ⟨H.next + 2, 0, some 1⟩) n n]⟩)
    H Hg hb hres ⟨up0, by omega, g1, by rw [zdW]; exact g2, g3⟩ hl hv hx (fun es H' hS i r hr => by rw [hS.1.row i (hs _ _ hr), hr]) ?_ ?_).mono ?_
  · rintro es H1 H2 ⟨u1, m1, k1, k2, k3⟩ hn2 hr2
    exact ⟨⟨by have := u1.next; omega, fun i hi => by rw [hr2 i (by omega), u1.row i hi]⟩, by omega, by rw [hr2 _ (by omega), k1], by rw [hr2 _ (by omega), k2], by rw [hr2 _ (by omega), k3]⟩
  · rintro es rd p q o H1 ⟨u1, m1, k1, k2, k3⟩ hn1 hrd hp hq ho
    have hc1 := hc H1 q o u1 hq ho
    have hlen := zaS n f es
    refine (summed1_c rd p q o _ g cap (H.next + 3) (H.next + 1) (H.next + 2) n _ H1 k3 k2 k1 hlen hp hc1).mono ?_
    rintro _ H2 rfl
    refine ⟨⟨u1.set (by omega) _, by rw [AH.setCells_next]; omega, ?_, ?_, ?_⟩, by rw [AH.setCells_next]; omega, fun i hi1 hi2 => ?_⟩
    · rw [AH.setCells_row, if_neg (by omega), k1]
    · rw [AH.setCells_row, if_pos rfl, k2, zcC]; rfl
    · rw [AH.setCells_row, if_neg (by omega), k3]
    · rw [AH.setCells_row, if_neg (by omega)]
  · rintro _ H2 ⟨⟨u1, m1, k1, k2, k3⟩, hn2⟩
    refine Holds.mp ?_
    try simp (disch := first | omega | (simp only [za2, List.length_replicate] <;> omega)) only [Sall,evalOp,init,binA_s,binE,binI,unE,convE,okNil,builtE,gv,TD.isAgg,resV,↓reduceIte,Nat.reduceEqDiff,reduceCtorEq,Nat.reduceAdd,Nat.reduceMul,Nat.reduceLeDiff,za0,za1,Int.reduceEq,Int.reduceLT,Int.reduceLE,Nat.reduceLT,tiA, k3]
    refine ⟨u1, zaS n f _ |>.trans (Nat.mul_one n).symm, .inr ⟨H.next + 2, by omega, by omega, rfl, k2⟩⟩
theorem zf6 (n : Nat) (v : Value) (k : Nat) (l : List Int) (x : Value) (ll : List (List Int)) (H : AH) (hb : schedB n k l = true) (hres : resB n k l ll = true) (hl : ll.length ≤ 4294967296) (hv : Rd 14 H v k l) (hx : Rd2 1 H x ll) :
    ACalls Tryz.prog 186 [.agg #[.int .i64 n, v], x] H (fun u H' => Up H.next H H' ∧ Fr 1 2 H.next H'.next H' u n (sumsF n (fun _ o => o) (meets n l ll ll.length))) := by
  refine ACalls.wf (by kernel_rfl) fun hs => za3 [.tmp 4] Tryz.func186 (by kernel_rfl) rfl rfl (Nat.le_of_ble_eq_true rfl) (by kernel_rfl) ?_
  have hone := hv.one
  have up : Up H.next H (H.push ⟨26, true, [.int .i64 n, v]⟩) := (Up.refl _ H).push (Nat.le_refl _) _
  have hv1 := hv.same (up.le hs).row
  have hx1 := hx.same (up.le hs).row
  try simp (disch := first | omega | (simp only [za2, List.length_replicate] <;> omega)) only [Sall,evalOp,init,binA_s,binE,binI,unE,convE,okNil,builtE,gv,TD.isAgg,resV,↓reduceIte,Nat.reduceEqDiff,reduceCtorEq,Nat.reduceAdd,Nat.reduceMul,Nat.reduceLeDiff,za0,za1,Int.reduceEq,Int.reduceLT,Int.reduceLE,Nat.reduceLT,tiA, hone]
  refine (zhK n v k l x ll 275 [] (fun _ o => o) _ hb hres hl hv1 hx1 fun H' b own _ _ _ => points1_c b own H').mono ?_
  rintro u H' ⟨up2, hf⟩
  refine Holds.mp ?_
  try simp (disch := first | omega | (simp only [za2, List.length_replicate] <;> omega)) only [Sall,evalOp,init,binA_s,binE,binI,unE,convE,okNil,builtE,gv,TD.isAgg,resV,↓reduceIte,Nat.reduceEqDiff,reduceCtorEq,Nat.reduceAdd,Nat.reduceMul,Nat.reduceLeDiff,za0,za1,Int.reduceEq,Int.reduceLT,Int.reduceLE,Nat.reduceLT,tiA, true_and]
  exact ⟨up.trans up2 (Nat.le_succ _), hf.wide (Nat.le_succ _) (Nat.le_refl _)⟩
end Go.Proofs.YtpienljnoaendaaGreat.A
end

section
set_option maxRecDepth 100000
namespace Go.Proofs.YtpienljnoaendaaGreat.A
open Go Go.Abs Go.RowKit
theorem second_c (n : Nat) (v : Value) (k : Nat) (l : List Int) (x : Value) (ll : List (List Int)) (H : AH) (hb : schedB n k l = true) (hres : resB n k l ll = true) (hl : ll.length ≤ 4294967296) (hv : Rd 14 H v k l) (hx : Rd2 1 H x ll) :
    ACalls Tryz.prog 261 [.agg #[.int .i64 n, v], x] H (fun u H' => Up H.next H H' ∧ Fr 1 2 H.next H'.next H' u n (sumsF n (fun b _ => (sumsF n (fun _ o => o) (meets n l ll ll.length)).getD b.toNat 0) (meets n l ll ll.length))) := by
  refine ACalls.wf (by kernel_rfl) fun hs => za3 [.tmp 4] Tryz.func261 (by kernel_rfl) rfl rfl (Nat.le_of_ble_eq_true rfl) (by kernel_rfl) ?_
  have hone := hv.one
  have up : Up H.next H (H.push ⟨26, true, [.int .i64 n, v]⟩) := (Up.refl _ H).push (Nat.le_refl _) _
  have e1 : (H.push ⟨26, true, [.int .i64 n, v]⟩).row H.next = some ⟨26, true, [.int .i64 n, v]⟩ := by rw [AH.push_row, if_pos rfl]
  have n1 : (H.push ⟨26, true, [.int .i64 n, v]⟩).next = H.next + 1 := rfl
  try simp (disch := first | omega | (simp only [za2, List.length_replicate] <;> omega)) only [Sall,evalOp,init,binA_s,binE,binI,unE,convE,okNil,builtE,gv,TD.isAgg,resV,↓reduceIte,Nat.reduceEqDiff,reduceCtorEq,Nat.reduceAdd,Nat.reduceMul,Nat.reduceLeDiff,za0,za1,Int.reduceEq,Int.reduceLT,Int.reduceLE,Nat.reduceLT,tiA, hone]
  revert up e1 n1
  generalize H.push ⟨26, true, [.int .i64 n, v]⟩ = H1
  intro up e1 n1
  refine (zf6 n v k l x ll H1 hb hres hl (hv.same (up.le hs).row) (hx.same (up.le hs).row)).mono ?_
  rintro u H2 ⟨up2, hf⟩
  have n2 := up2.next
  have u2 : Up H.next H H2 := up.trans up2 (by omega)
  have e2 : H2.row H.next = some ⟨26, true, [.int .i64 n, v]⟩ := by rw [up2.row _ (by omega), e1]
  have hu := hf.rd.one
  have ne : ¬ H.next = H2.next := by omega
  refine Holds.mp ?_
  try simp (disch := first | omega | (simp only [za2, List.length_replicate] <;> omega)) only [Sall,evalOp,init,binA_s,binE,binI,unE,convE,okNil,builtE,gv,TD.isAgg,resV,↓reduceIte,Nat.reduceEqDiff,reduceCtorEq,Nat.reduceAdd,Nat.reduceMul,Nat.reduceLeDiff,za0,za1,Int.reduceEq,Int.reduceLT,Int.reduceLE,Nat.reduceLT,tiA, hone, hu, e2, ne, zbM, List.mem_cons, List.not_mem_nil, or_false, forall_eq_or_imp, forall_eq, Array.size_empty]
  obtain ⟨H3, e3⟩ : ∃ H3, H3 = H2.push ⟨33, true, [u]⟩ := ⟨_, rfl⟩
  have s3 : ∀ i, i < H2.next → H3.row i = H2.row i := fun i hi => by rw [e3, AH.push_row, if_neg (by omega)]
  have r3 : H3.row H2.next = some ⟨33, true, [u]⟩ := by rw [e3, AH.push_row, if_pos rfl]
  have n3 : H3.next = H2.next + 1 := by rw [e3]; rfl
  rw [← e3]
  clear e3
  have u3 : Up H.next H H3 := ⟨by have := u2.next; omega, fun i hi => by rw [s3 i (by omega), u2.row i hi]⟩
  have hf3 : Fr 1 2 H1.next H2.next H3 u n (sumsF n (fun _ o => o) (meets n l ll ll.length)) := hf.same fun i _ hi => s3 i hi
  refine (zhK n v k l x ll 295 [.pointer (some ⟨H2.next, 0, none⟩)] (fun b _ => (sumsF n (fun _ o => o) (meets n l ll ll.length)).getD b.toNat 0) H3 hb hres hl (hv.same (u3.le hs).row) (hx.same (u3.le hs).row) ?_).mono ?_
  · intro H' b own up' hb' _
    exact second1_c b own H2.next u n _ H' (by rw [up'.row _ (by omega), r3]) (hf3.same (fun i _ hi => up'.row i (by omega))).rd hb'
  · rintro w H4 ⟨up4, hg⟩
    refine Holds.mp ?_
    try simp (disch := first | omega | (simp only [za2, List.length_replicate] <;> omega)) only [Sall,evalOp,init,binA_s,binE,binI,unE,convE,okNil,builtE,gv,TD.isAgg,resV,↓reduceIte,Nat.reduceEqDiff,reduceCtorEq,Nat.reduceAdd,Nat.reduceMul,Nat.reduceLeDiff,za0,za1,Int.reduceEq,Int.reduceLT,Int.reduceLE,Nat.reduceLT,tiA, true_and]
    exact ⟨u3.trans up4 (by omega), hg.wide (by omega) (Nat.le_refl _)⟩
theorem resultsCode1_c (q : Int) (v : Value) (k : Nat) (l : List Int) (x : Value) (ll : List (List Int)) (g : FuncId) (cap : List Value) (b : Bool) (a0 a1 a2 : Nat) (H : AH) (hb : schedB q k l = true)
    (h0 : H.row a0 = some ⟨26, true, [.int .i64 q, v]⟩) (h1 : H.row a1 = some ⟨30, true, [x]⟩) (h2 : H.row a2 = some ⟨100, true, [.func (.func g) #[] cap.toArray]⟩)
    (hv : Rd 14 H v k l) (hk : k ≤ 4294967296) (hx : Rd2 1 H x ll) (hl : ll.length ≤ 4294967296) (hl2 : ∀ y ∈ ll, y.length ≤ 4294967296)
    (hg : resB q.toNat k l ll = true → ACalls Tryz.prog g cap H (is (.bool b) H)) :
    ACalls Tryz.prog 259 [.pointer (some ⟨a0, 0, none⟩), .pointer (some ⟨a1, 0, none⟩), .pointer (some ⟨a2, 0, none⟩)] H (is (.bool (resB q.toNat k l ll && b)) H) := by
  refine za3 [.tmp 3] Tryz.func259 (by kernel_rfl) rfl rfl (Nat.le_of_ble_eq_true rfl) (by kernel_rfl) ?_
  have hone := hv.one
  have hx1 := hx.one
  obtain ⟨hn, _, _⟩ := zaC hb
  obtain ⟨n, rfl⟩ : ∃ n : Nat, q = n := ⟨q.toNat, by omega⟩
  rw [Int.toNat_natCast] at hg ⊢
  try simp (disch := first | omega | (simp only [za2, List.length_replicate] <;> omega)) only [Sall,evalOp,init,binA_s,binE,binI,unE,convE,okNil,builtE,gv,TD.isAgg,resV,↓reduceIte,Nat.reduceEqDiff,reduceCtorEq,Nat.reduceAdd,Nat.reduceMul,Nat.reduceLeDiff,za0,za1,Int.reduceEq,Int.reduceLT,Int.reduceLE,Nat.reduceLT,tiA, h0, h1]
  refine (areResults_c n v k l x ll H (by omega) hv hk hx hl hl2).to ?_
  cases hr : resB n k l ll with
  | true =>
    have hg' := hg hr
    try simp (disch := first | omega | (simp only [za2, List.length_replicate] <;> omega)) only [Sall,evalOp,init,binA_s,binE,binI,unE,convE,okNil,builtE,gv,TD.isAgg,resV,↓reduceIte,Nat.reduceEqDiff,reduceCtorEq,Nat.reduceAdd,Nat.reduceMul,Nat.reduceLeDiff,za0,za1,Int.reduceEq,Int.reduceLT,Int.reduceLE,Nat.reduceLT,tiA, h2]
    refine hg'.to ?_
    try simp (disch := first | omega | (simp only [za2, List.length_replicate] <;> omega)) only [Sall,evalOp,init,binA_s,binE,binI,unE,convE,okNil,builtE,gv,TD.isAgg,resV,↓reduceIte,Nat.reduceEqDiff,reduceCtorEq,Nat.reduceAdd,Nat.reduceMul,Nat.reduceLeDiff,za0,za1,Int.reduceEq,Int.reduceLT,Int.reduceLE,Nat.reduceLT,tiA, is, Bool.true_and]
  | false =>
    try simp (disch := first | omega | (simp only [za2, List.length_replicate] <;> omega)) only [Sall,evalOp,init,binA_s,binE,binI,unE,convE,okNil,builtE,gv,TD.isAgg,resV,↓reduceIte,Nat.reduceEqDiff,reduceCtorEq,Nat.reduceAdd,Nat.reduceMul,Nat.reduceLeDiff,za0,za1,Int.reduceEq,Int.reduceLT,Int.reduceLE,Nat.reduceLT,tiA, is, Bool.false_and]
theorem zbO (q : Int) (v : Value) (k : Nat) (l : List Int) (x : Value) (ll : List (List Int)) (g : FuncId) (cap : List Value) (b : Bool) (H : AH)
    (hv : Rd 14 H v k l) (hk : k ≤ 4294967296) (hx : Rd2 1 H x ll) (hl : ll.length ≤ 4294967296) (hl2 : ∀ y ∈ ll, y.length ≤ 4294967296)
    (hg : ∀ H', Up H.next H H' → schedB q k l = true → resB q.toNat k l ll = true → ACalls Tryz.prog g cap H' (is (.bool b) H')) :
    ACalls Tryz.prog 165 [.agg #[.int .i64 q, v], x, .func (.func g) #[] cap.toArray] H (is (.int .i64 (codeS q k l (resB q.toNat k l ll && b))) H) := by
  refine ACalls.wf (by kernel_rfl) fun hs => zaZ rfl (za3 [.tmp 6] Tryz.func165 (by kernel_rfl) rfl rfl (Nat.le_of_ble_eq_true rfl) (by kernel_rfl) ?_)
  have hone := hv.one
  have hx1 := hx.one
  have ne : ¬ H.next = H.next + 2 := by omega
  have ne1 : ¬ H.next = H.next + 1 + 1 := by omega
  try simp (disch := first | omega | (simp only [za2, List.length_replicate] <;> omega)) only [Sall,evalOp,init,binA_s,binE,binI,unE,convE,okNil,builtE,gv,TD.isAgg,resV,↓reduceIte,Nat.reduceEqDiff,reduceCtorEq,Nat.reduceAdd,Nat.reduceMul,Nat.reduceLeDiff,za0,za1,Int.reduceEq,Int.reduceLT,Int.reduceLE,Nat.reduceLT,tiA, hone, zfE hx1, ne, ne1, List.mem_cons, List.not_mem_nil, or_false, forall_eq_or_imp, forall_eq, Array.size_empty]
  obtain ⟨Hg, eg⟩ : ∃ Hg, Hg = ((H.push ⟨26, true, [.int .i64 q, v]⟩).push ⟨30, true, [x]⟩).push ⟨100, true, [.func (.func g) #[] cap.toArray]⟩ := ⟨_, rfl⟩
  have up0 : Up H.next H Hg := by rw [eg]; exact (((Up.refl _ H).push (by omega) _).push (by simp only [AH.push_next]; omega) _).push (by simp only [AH.push_next]; omega) _
  have g0 : Hg.row H.next = some ⟨26, true, [.int .i64 q, v]⟩ := by rw [eg]; (simp [AH.setCells_row, AH.push_row, AH.push_next] <;> (try omega) <;> (repeat rw [if_neg (by omega)]))
  have g1 : Hg.row (H.next + 1) = some ⟨30, true, [x]⟩ := by rw [eg]; (simp [AH.setCells_row, AH.push_row, AH.push_next] <;> (try omega) <;> (repeat rw [if_neg (by omega)]))
  have g2 : Hg.row (H.next + 2) = some ⟨100, true, [.func (.func g) #[] cap.toArray]⟩ := by rw [eg]; (simp [AH.setCells_row, AH.push_row, AH.push_next] <;> (try omega) <;> (repeat rw [if_neg (by omega)]))
  have ng : Hg.next = H.next + 3 := by rw [eg]; rfl
  rw [← eg]
  clear eg
  refine (zdK q v k l 259 [.pointer (some ⟨H.next, 0, none⟩), .pointer (some ⟨H.next + 1, 0, none⟩), .pointer (some ⟨H.next + 2, 0, none⟩)] (resB q.toNat k l ll && b) Hg (hv.same (up0.le hs).row) hk ?_).to ?_
  · intro H' up' hb'
    have u' : Up H.next H H' := up0.trans up' (by omega)
    exact resultsCode1_c q v k l x ll g cap b _ _ _ H' hb' (by rw [up'.row _ (by omega), g0]) (by rw [up'.row _ (by omega), g1]) (by rw [up'.row _ (by omega), g2]) (hv.same (u'.le hs).row) hk (hx.same (u'.le hs).row) hl hl2 (hg H' u' hb')
  · try simp (disch := first | omega | (simp only [za2, List.length_replicate] <;> omega)) only [Sall,evalOp,init,binA_s,binE,binI,unE,convE,okNil,builtE,gv,TD.isAgg,resV,↓reduceIte,Nat.reduceEqDiff,reduceCtorEq,Nat.reduceAdd,Nat.reduceMul,Nat.reduceLeDiff,za0,za1,Int.reduceEq,Int.reduceLT,Int.reduceLE,Nat.reduceLT,tiA, true_and]
    exact up0
theorem zhA (r : Int) (H : AH) : ACalls Tryz.prog 179 [.int .i64 r] H (is (.tuple #[.int .i64 (wonI r), .int .i64 (2 - wonI r)]) H) := by
  refine za3 [.tmp 2, .tmp 3] Tryz.func179 (by kernel_rfl) rfl rfl (Nat.le_of_ble_eq_true rfl) (by kernel_rfl) ?_
  refine Holds.mp ?_
  rcases won_cases r with ⟨f1, f2, fw⟩ | ⟨f1, f2, fw⟩ | ⟨f1, f2, fw⟩ <;> rw [zcW]
  all_goals
    try simp (disch := first | omega | (simp only [za2, List.length_replicate] <;> omega)) only [Sall,evalOp,init,binA_s,binE,binI,unE,convE,okNil,builtE,gv,TD.isAgg,resV,↓reduceIte,Nat.reduceEqDiff,reduceCtorEq,Nat.reduceAdd,Nat.reduceMul,Nat.reduceLeDiff,za0,za1,Int.reduceEq,Int.reduceLT,Int.reduceLE,Nat.reduceLT,tiA, f1, f2, is]
    rw [fw]
    rfl
theorem zeD (q : Int) (v : Value) (k : Nat) (l : List Int) (x : Value) (ll : List (List Int)) (tv : Value) (m : Nat) (ts : List Int) (H : AH)
    (hv : Rd 14 H v k l) (hk : k ≤ 4294967296) (hx : Rd2 1 H x ll) (hl : ll.length ≤ 4294967296) (hl2 : ∀ y ∈ ll, y.length ≤ 4294967296) (ht : Rd 1 H tv m ts) (hm : m ≤ 4294967296) :
    ACalls Tryz.prog 171 [.agg #[.int .i64 q, v], x, tv] H (is (.int .i64 (codeS q k l (resB q.toNat k l ll && (List.range m).all fun i => decide (0 ≤ ts.getD i 0 ∧ ts.getD i 0 ≤ q - 1)))) H) := by
  refine ACalls.wf (by kernel_rfl) fun hs => zaZ rfl (za3 [.tmp 6] Tryz.func171 (by kernel_rfl) rfl rfl (Nat.le_of_ble_eq_true rfl) (by kernel_rfl) ?_)
  have hone := hv.one
  have up : Up H.next H (H.push ⟨26, true, [.int .i64 q, v]⟩) := (Up.refl _ H).push (Nat.le_refl _) _
  have e1 : (H.push ⟨26, true, [.int .i64 q, v]⟩).row H.next = some ⟨26, true, [.int .i64 q, v]⟩ := by rw [AH.push_row, if_pos rfl]
  try simp (disch := first | omega | (simp only [za2, List.length_replicate] <;> omega)) only [Sall,evalOp,init,binA_s,binE,binI,unE,convE,okNil,builtE,gv,TD.isAgg,resV,↓reduceIte,Nat.reduceEqDiff,reduceCtorEq,Nat.reduceAdd,Nat.reduceMul,Nat.reduceLeDiff,za0,za1,Int.reduceEq,Int.reduceLT,Int.reduceLE,Nat.reduceLT,tiA, hone]
  revert up e1
  generalize H.push ⟨26, true, [.int .i64 q, v]⟩ = H1
  intro up e1
  have hv1 := hv.same (up.le hs).row
  have hx1 := hx.same (up.le hs).row
  have ht1 := ht.same (up.le hs).row
  refine (l01Is_c q v k l H1 hv1 hk).to ?_
  unfold codeS
  by_cases hb : schedB q k l = true
  · obtain ⟨h2, _, _⟩ := zaC hb
    obtain ⟨n, rfl⟩ : ∃ n : Nat, q = n := ⟨q.toNat, by omega⟩
    rw [if_pos hb, Int.toNat_natCast]
    try simp (disch := first | omega | (simp only [za2, List.length_replicate] <;> omega)) only [Sall,evalOp,init,binA_s,binE,binI,unE,convE,okNil,builtE,gv,TD.isAgg,resV,↓reduceIte,Nat.reduceEqDiff,reduceCtorEq,Nat.reduceAdd,Nat.reduceMul,Nat.reduceLeDiff,za0,za1,Int.reduceEq,Int.reduceLT,Int.reduceLE,Nat.reduceLT,tiA, hb, Bool.not_true, e1]
    refine (l10Is_c n v k l x ll _ (by omega) hv1 hk hx1 hl hl2).to ?_
    cases hr : resB n k l ll with
    | false =>
      try simp (disch := first | omega | (simp only [za2, List.length_replicate] <;> omega)) only [Sall,evalOp,init,binA_s,binE,binI,unE,convE,okNil,builtE,gv,TD.isAgg,resV,↓reduceIte,Nat.reduceEqDiff,reduceCtorEq,Nat.reduceAdd,Nat.reduceMul,Nat.reduceLeDiff,za0,za1,Int.reduceEq,Int.reduceLT,Int.reduceLE,Nat.reduceLT,tiA, Bool.not_false, Bool.false_and]
      exact up
    | true =>
      rw [Bool.true_and]
      try simp (disch := first | omega | (simp only [za2, List.length_replicate] <;> omega)) only [Sall,evalOp,init,binA_s,binE,binI,unE,convE,okNil,builtE,gv,TD.isAgg,resV,↓reduceIte,Nat.reduceEqDiff,reduceCtorEq,Nat.reduceAdd,Nat.reduceMul,Nat.reduceLeDiff,za0,za1,Int.reduceEq,Int.reduceLT,Int.reduceLE,Nat.reduceLT,tiA, Bool.not_true]
      refine za7 (fun z t H' => ∃ a : Nat, z = m - a ∧ a ≤ m ∧ t 7 = .int .i64 a ∧ t 2 = tv ∧ t 3 = .pointer (some ⟨H.next, 0, none⟩) ∧ H' = H1 ∧ (∀ i, i < a → (0 ≤ ts.getD i 0 ∧ ts.getD i 0 ≤ (n : Int) - 1))) m ?_ ?_
      · refine ⟨0, by omega, by omega, ?_⟩
        try simp (disch := first | omega | (simp only [za2, List.length_replicate] <;> omega)) only [Sall,evalOp,init,binA_s,binE,binI,unE,convE,okNil,builtE,gv,TD.isAgg,resV,↓reduceIte,Nat.reduceEqDiff,reduceCtorEq,Nat.reduceAdd,Nat.reduceMul,Nat.reduceLeDiff,za0,za1,Int.reduceEq,Int.reduceLT,Int.reduceLE,Nat.reduceLT,tiA, Int.natCast_zero, Nat.not_lt_zero, false_implies]
      · rintro z t H' ⟨a, hz, ham, h7, h2, h3, rfl, hall⟩
        try simp (disch := first | omega | (simp only [za2, List.length_replicate] <;> omega)) only [Sall,evalOp,init,binA_s,binE,binI,unE,convE,okNil,builtE,gv,TD.isAgg,resV,↓reduceIte,Nat.reduceEqDiff,reduceCtorEq,Nat.reduceAdd,Nat.reduceMul,Nat.reduceLeDiff,za0,za1,Int.reduceEq,Int.reduceLT,Int.reduceLE,Nat.reduceLT,tiA, h7, h2, builtE, ht1.len]
        refine za6 (fun h => ?_) (fun h => ?_)
        · obtain ⟨i, o, u, c, r, rfl, hr, hc, hs2, _⟩ := ht1.get (by omega)
          have g1 := hs2 a (by omega)
          refine zaR (by kernel_rfl) (by kernel_rfl) ?_
          try simp (disch := first | omega | (simp only [za2, List.length_replicate] <;> omega)) only [Sall,evalOp,init,binA_s,binE,binI,unE,convE,okNil,builtE,gv,TD.isAgg,resV,↓reduceIte,Nat.reduceEqDiff,reduceCtorEq,Nat.reduceAdd,Nat.reduceMul,Nat.reduceLeDiff,za0,za1,Int.reduceEq,Int.reduceLT,Int.reduceLE,Nat.reduceLT,tiA, h7, h2, h3, hr, g1, e1, w64]
          refine ⟨⟨by omega, by omega⟩, (zgS _ _ _ _).to ?_⟩
          refine ⟨.inr (.inr (LE.refl _)), ?_⟩
          by_cases hin : 0 ≤ ts.getD a 0 ∧ ts.getD a 0 ≤ (n : Int) - 1
          · try simp (disch := first | omega | (simp only [za2, List.length_replicate] <;> omega)) only [Sall,evalOp,init,binA_s,binE,binI,unE,convE,okNil,builtE,gv,TD.isAgg,resV,↓reduceIte,Nat.reduceEqDiff,reduceCtorEq,Nat.reduceAdd,Nat.reduceMul,Nat.reduceLeDiff,za0,za1,Int.reduceEq,Int.reduceLT,Int.reduceLE,Nat.reduceLT,tiA, hin, decide_true, Bool.not_true, h7, w64]
            refine ⟨m - (a + 1), by omega, a + 1, rfl, by omega, by omega, h2, h3, fun i hi => ?_⟩
            by_cases e : i = a
            · rw [e]; exact hin
            · exact hall i (by omega)
          · try simp (disch := first | omega | (simp only [za2, List.length_replicate] <;> omega)) only [Sall,evalOp,init,binA_s,binE,binI,unE,convE,okNil,builtE,gv,TD.isAgg,resV,↓reduceIte,Nat.reduceEqDiff,reduceCtorEq,Nat.reduceAdd,Nat.reduceMul,Nat.reduceLeDiff,za0,za1,Int.reduceEq,Int.reduceLT,Int.reduceLE,Nat.reduceLT,tiA, hin, decide_false, Bool.not_false]
            rw [zc4 (i := a) (by omega) (decide_eq_false hin)]
            exact ⟨rfl, up⟩
        · try simp (disch := first | omega | (simp only [za2, List.length_replicate] <;> omega)) only [Sall,evalOp,init,binA_s,binE,binI,unE,convE,okNil,builtE,gv,TD.isAgg,resV,↓reduceIte,Nat.reduceEqDiff,reduceCtorEq,Nat.reduceAdd,Nat.reduceMul,Nat.reduceLeDiff,za0,za1,Int.reduceEq,Int.reduceLT,Int.reduceLE,Nat.reduceLT,tiA, true_and]
          rw [zcJ (fun i hi => decide_eq_true (hall i (by omega)))]
          exact ⟨rfl, up⟩
  · have hb' : schedB q k l = false := by simpa using hb
    try simp (disch := first | omega | (simp only [za2, List.length_replicate] <;> omega)) only [Sall,evalOp,init,binA_s,binE,binI,unE,convE,okNil,builtE,gv,TD.isAgg,resV,↓reduceIte,Nat.reduceEqDiff,reduceCtorEq,Nat.reduceAdd,Nat.reduceMul,Nat.reduceLeDiff,za0,za1,Int.reduceEq,Int.reduceLT,Int.reduceLE,Nat.reduceLT,tiA, hb', Bool.not_false]
    exact up
end Go.Proofs.YtpienljnoaendaaGreat.A
end

section
set_option maxRecDepth 100000
set_option maxHeartbeats 2000000
namespace Go.Proofs.YtpienljnoaendaaGreat.A
open Go Go.Abs Go.RowKit
theorem zcQ (n : Nat) (v : Value) (k : Nat) (l : List Int) (x : Value) (ll : List (List Int)) (R : Nat) (H : AH) (hb : schedB n k l = true) (hres : resB n k l ll = true) (hR : R ≤ ll.length) (hl : ll.length ≤ 4294967296) (hv : Rd 14 H v k l) (hx : Rd2 1 H x ll) :
    ACalls Tryz.prog 182 [.agg #[.int .i64 n, v], x, .int .i64 R] H (fun u H' => Up H.next H H' ∧ Fr 1 2 H.next H'.next H' u n (sumsF n (fun _ o => o) (meets n l ll R))) := by
  refine ACalls.wf (by kernel_rfl) fun hs => za3 [.tmp 6] Tryz.func182 (by kernel_rfl) rfl rfl (Nat.le_of_ble_eq_true rfl) (by kernel_rfl) ?_
  obtain ⟨hn, hk40, hrounds⟩ := zaC hb
  obtain ⟨hlk, hrs⟩ := zcY hres
  have hone := hv.one
  try simp (disch := first | omega | (simp only [L3] <;> omega)) only [Sall,evalOp,init,binA_s,binE,binI,unE,convE,okNil,builtE,gv,TD.isAgg,resV,↓reduceIte,Nat.reduceEqDiff,reduceCtorEq,Nat.reduceAdd,Nat.reduceMul,Nat.reduceLeDiff,za0,za1,Int.reduceEq,Int.reduceLT,Int.reduceLE,Nat.reduceLT,tiA, hone, zcO]
  refine ⟨by omega, ?_⟩
  refine za7 (fun m t H' => ∃ a : Nat, m = R - a ∧ a ≤ R ∧ t 8 = .int .i64 a ∧ t 7 = .slice (some ⟨H.next + 1, 0, some 1⟩) n n ∧ t 2 = .int .i64 R ∧ t 1 = x ∧ t 3 = .pointer (some ⟨H.next, 0, none⟩) ∧ Up H.next H H' ∧ H.next + 1 < H'.next ∧ H'.row H.next = some ⟨26, true, [.int .i64 n, v]⟩ ∧ H'.row (H.next + 1) = some ⟨2, true, ints (sumsF n (fun _ o => o) (meets n l ll a))⟩) R ?_ ?_
  · refine ⟨0, by omega, by omega, ?_⟩
    try simp (disch := first | omega | (simp only [L3] <;> omega)) only [Sall,evalOp,init,binA_s,binE,binI,unE,convE,okNil,builtE,gv,TD.isAgg,resV,↓reduceIte,Nat.reduceEqDiff,reduceCtorEq,Nat.reduceAdd,Nat.reduceMul,Nat.reduceLeDiff,za0,za1,Int.reduceEq,Int.reduceLT,Int.reduceLE,Nat.reduceLT,tiA, Int.natCast_zero, zbW, zdW]
    exact ⟨((Up.refl _ H).push (by omega) _).push (by simp only [AH.push_next]; omega) _, by omega⟩
  · rintro m t H' ⟨a, hm, h14, h8, h7, h2, h1, h3, hup, hnx, hr1, hr2⟩
    try simp (disch := first | omega | (simp only [L3] <;> omega)) only [Sall,evalOp,init,binA_s,binE,binI,unE,convE,okNil,builtE,gv,TD.isAgg,resV,↓reduceIte,Nat.reduceEqDiff,reduceCtorEq,Nat.reduceAdd,Nat.reduceMul,Nat.reduceLeDiff,za0,za1,Int.reduceEq,Int.reduceLT,Int.reduceLE,Nat.reduceLT,tiA, h8, h2]
    refine za6 (fun h => ?_) (fun h => ?_)
    · obtain ⟨i, o, u, c, r, y, my, ex, hrB, hy, hsx, hok⟩ := hx.get (j := a) (by omega)
      obtain ⟨i', o', u', c', r', ev, hrB', hc', hs', hg'⟩ := hv.get (by omega)
      have hr' : H'.row i' = some r' := by rw [hup.row _ (hs _ _ hrB'), hrB']
      have hiB := hs _ _ hrB
      obtain ⟨hlen, hvals⟩ := hrs a (by omega)
      have hrl : (rnd l a).length = 14 := zbA l a k hv.1 (by omega)
      have hlh := hup.next
      refine zaR (by kernel_rfl) (by kernel_rfl) ?_
      try simp (disch := first | omega | (simp only [L3] <;> omega)) only [Sall,evalOp,init,binA_s,binE,binI,unE,convE,okNil,builtE,gv,TD.isAgg,resV,↓reduceIte,Nat.reduceEqDiff,reduceCtorEq,Nat.reduceAdd,Nat.reduceMul,Nat.reduceLeDiff,za0,za1,Int.reduceEq,Int.reduceLT,Int.reduceLE,Nat.reduceLT,tiA, h8, h3, hr1, ev, hr', hg']
      refine ⟨⟨by omega, by omega⟩, by omega, ACalls.wf (by kernel_rfl) fun hs1 => (zcP n (rnd l a) hrl (by omega) H').mono ?_⟩
      rintro p H3 ⟨up3, hp⟩
      have hpl := hp.rd.len
      refine ⟨.inr (.inr (up3.le hs1)), ?_⟩
      have n3 := up3.next
      have hr3 : H3.row H.next = some ⟨26, true, [.int .i64 n, v]⟩ := by rw [up3.row _ (by omega), hr1]
      have hr4 : H3.row (H.next + 1) = some ⟨2, true, ints (sumsF n (fun _ o => o) (meets n l ll a))⟩ := by rw [up3.row _ hnx, hr2]
      have hplen := zbE (rnd l a) n
      have hround := hrounds a (by omega)
      refine Holds.mp ?_
      try simp (disch := first | omega | (simp only [L3] <;> omega)) only [Sall,evalOp,init,binA_s,binE,binI,unE,convE,okNil,builtE,gv,TD.isAgg,resV,↓reduceIte,Nat.reduceEqDiff,reduceCtorEq,Nat.reduceAdd,Nat.reduceMul,Nat.reduceLeDiff,za0,za1,Int.reduceEq,Int.reduceLT,Int.reduceLE,Nat.reduceLT,tiA, h8, h7, h2, h1, h3]
      refine za7 (fun z t H4 => ∃ b : Nat, z = (pairsL (rnd l a) n).length - b ∧ b ≤ (pairsL (rnd l a) n).length ∧ t 10 = .int .i64 b ∧ t 9 = p ∧ t 8 = .int .i64 a ∧ t 7 = .slice (some ⟨H.next + 1, 0, some 1⟩) n n ∧ t 2 = .int .i64 R ∧ t 1 = x ∧ t 3 = .pointer (some ⟨H.next, 0, none⟩) ∧ Up H.next H H4 ∧ H3.next ≤ H4.next ∧ H4.row H.next = some ⟨26, true, [.int .i64 n, v]⟩ ∧
          Fr2 1 33 2 H'.next H3.next H4 p (pairsL (rnd l a) n) ∧ H4.row (H.next + 1) = some ⟨2, true, ints (sumsF n (fun _ o => o) (meets n l ll a ++ zaL n a (rnd l a) (ll.getD a []) b))⟩) (pairsL (rnd l a) n).length ?_ ?_
      · refine ⟨0, by omega, by omega, ?_⟩
        try simp (disch := first | omega | (simp only [L3] <;> omega)) only [Sall,evalOp,init,binA_s,binE,binI,unE,convE,okNil,builtE,gv,TD.isAgg,resV,↓reduceIte,Nat.reduceEqDiff,reduceCtorEq,Nat.reduceAdd,Nat.reduceMul,Nat.reduceLeDiff,za0,za1,Int.reduceEq,Int.reduceLT,Int.reduceLE,Nat.reduceLT,tiA, Int.natCast_zero, zc5, List.append_nil, h8, h7, h2, h1, h3]
        exact ⟨hup.trans up3 hlh, hr3, hp, hr4⟩
      · rintro z t H4 ⟨b, hz, hbp, h10, h9, h8, h7, h2, h1, h3, hup4, hn4, hr4, hp4, hr5⟩
        have hpl4 := hp4.rd.len
        try simp (disch := first | omega | (simp only [L3] <;> omega)) only [Sall,evalOp,init,binA_s,binE,binI,unE,convE,okNil,builtE,gv,TD.isAgg,resV,↓reduceIte,Nat.reduceEqDiff,reduceCtorEq,Nat.reduceAdd,Nat.reduceMul,Nat.reduceLeDiff,za0,za1,Int.reduceEq,Int.reduceLT,Int.reduceLE,Nat.reduceLT,tiA, h10, h9, builtE, hpl4]
        refine za6 (fun hh => ?_) (fun hh => ?_)
        · obtain ⟨pi, pvs, px, pm, pb, pc, rfl, q1, q2, q3, q4, q5, q6, q7, q8⟩ := hp4.getF (j := b) (by omega)
          have hpm := q8.lenK1
          obtain ⟨aa, ha1, ha2, ha3⟩ := zbD (rnd l a) n b (by omega)
          obtain ⟨_, ha4, ha5, _⟩ := zb3 hround (a := aa) (by omega)
          have hmy := hsx.lenK1
          obtain ⟨i5, o5, u5, c5, r5, rfl, gB, g2, g3, _⟩ := hsx.get (by omega)
          have hi5 := hs _ _ gB
          have g1 : H4.row i5 = some r5 := by rw [hup4.row _ hi5, gB]
          have gr : H4.row i = some r := by rw [hup4.row _ hiB, hrB]
          have g4 := g3 b (by omega)
          rw [ha3] at q8 hpm
          simp only [List.length_cons, List.length_nil] at hpm
          obtain rfl : pm = 2 := hpm
          obtain ⟨i6, w1, w2, rfl, w3⟩ := q8.get (by omega)
          have evs0 : meets n l ll a ++ zaL n a (rnd l a) (ll.getD a []) (b + 1) = ((meets n l ll a ++ zaL n a (rnd l a) (ll.getD a []) b) ++ [(a, (aa : Int), (rnd l a).getD aa 0, wonI ((ll.getD a []).getD b 0))]) ++ [(a, (rnd l a).getD aa 0, (aa : Int), 2 - wonI ((ll.getD a []).getD b 0))] := by
            rw [zbL, ha3]; simp [evPair]
          have i0 : (ints [(aa : Int), (rnd l a).getD aa 0])[Int.toNat 0]? = some (.int .i64 aa) := rfl
          have i1 : (ints [(aa : Int), (rnd l a).getD aa 0])[Int.toNat 1]? = some (.int .i64 ((rnd l a).getD aa 0)) := rfl
          have hsl := zaS n (fun _ o => o) (meets n l ll a ++ zaL n a (rnd l a) (ll.getD a []) b)
          have evs1 : sumsF n (fun _ o => o) (meets n l ll a ++ zaL n a (rnd l a) (ll.getD a []) (b + 1)) = addAt (addAt (sumsF n (fun _ o => o) (meets n l ll a ++ zaL n a (rnd l a) (ll.getD a []) b)) aa (wonI ((ll.getD a []).getD b 0))) ((rnd l a).getD aa 0) (2 - wonI ((ll.getD a []).getD b 0)) := by
            rw [evs0, zcC, zcC]
          revert hr5 hsl evs1
          generalize sumsF n (fun _ o => o) (meets n l ll a ++ zaL n a (rnd l a) (ll.getD a []) b) = A
          intro hr5 hsl evs1
          have ne1 : ¬ pi = H.next + 1 := by omega
          have ne2 : ¬ i6 = H.next + 1 := by omega
          try simp (disch := first | omega | (simp only [L3] <;> omega)) only [Sall,evalOp,init,binA_s,binE,binI,unE,convE,okNil,builtE,gv,TD.isAgg,resV,↓reduceIte,Nat.reduceEqDiff,reduceCtorEq,Nat.reduceAdd,Nat.reduceMul,Nat.reduceLeDiff,za0,za1,Int.reduceEq,Int.reduceLT,Int.reduceLE,Nat.reduceLT,tiA, h10, h8, h1, ex, gr, hy, hok, g1, g4]
          refine ⟨⟨by omega, by omega⟩, ⟨by omega, by omega⟩, (zhA _ _).to ?_⟩
          try simp (disch := first | omega | (simp only [L3] <;> omega)) only [Sall,evalOp,init,binA_s,binE,binI,unE,convE,okNil,builtE,gv,TD.isAgg,resV,↓reduceIte,Nat.reduceEqDiff,reduceCtorEq,Nat.reduceAdd,Nat.reduceMul,Nat.reduceLeDiff,za0,za1,Int.reduceEq,Int.reduceLT,Int.reduceLE,Nat.reduceLT,tiA, h10, h9, h7]
          refine zaR (by kernel_rfl) (by kernel_rfl) ?_
          try simp (disch := first | omega | (simp only [L3] <;> omega)) only [Sall,evalOp,init,binA_s,binE,binI,unE,convE,okNil,builtE,gv,TD.isAgg,resV,↓reduceIte,Nat.reduceEqDiff,reduceCtorEq,Nat.reduceAdd,Nat.reduceMul,Nat.reduceLeDiff,za0,za1,Int.reduceEq,Int.reduceLT,Int.reduceLE,Nat.reduceLT,tiA, h10, h9, h7, q3, q5, w3, i0, hr5, ints_get?, zaH]
          (repeat refine And.intro (by omega) ?_)
          refine ⟨.inr (.inl (by kernel_rfl)), ?_⟩
          try simp (disch := first | omega | (simp only [L3] <;> omega)) only [Sall,evalOp,init,binA_s,binE,binI,unE,convE,okNil,builtE,gv,TD.isAgg,resV,↓reduceIte,Nat.reduceEqDiff,reduceCtorEq,Nat.reduceAdd,Nat.reduceMul,Nat.reduceLeDiff,za0,za1,Int.reduceEq,Int.reduceLT,Int.reduceLE,Nat.reduceLT,tiA, h10, h9, h7]
          refine zaR (by kernel_rfl) (by kernel_rfl) ?_
          try simp (disch := first | omega | (simp only [L3] <;> omega)) only [Sall,evalOp,init,binA_s,binE,binI,unE,convE,okNil,builtE,gv,TD.isAgg,resV,↓reduceIte,Nat.reduceEqDiff,reduceCtorEq,Nat.reduceAdd,Nat.reduceMul,Nat.reduceLeDiff,za0,za1,Int.reduceEq,Int.reduceLT,Int.reduceLE,Nat.reduceLT,tiA, h10, h9, h7, q3, q5, w3, i1, hr5, ne1, ne2, ints_get?, zaH]
          try simp only [List.length_set]
          (repeat refine And.intro (by omega) ?_)
          refine ⟨.inr (.inl (by kernel_rfl)), ?_⟩
          try simp (disch := first | omega | (simp only [L3] <;> omega)) only [Sall,evalOp,init,binA_s,binE,binI,unE,convE,okNil,builtE,gv,TD.isAgg,resV,↓reduceIte,Nat.reduceEqDiff,reduceCtorEq,Nat.reduceAdd,Nat.reduceMul,Nat.reduceLeDiff,za0,za1,Int.reduceEq,Int.reduceLT,Int.reduceLE,Nat.reduceLT,tiA, h10, h9, h8, h7, h2, h1, h3, w64]
          refine ⟨(pairsL (rnd l a) n).length - (b + 1), by omega, b + 1, rfl, by omega, by omega, (hup4.set (by omega) _).set (by omega) _, hn4, hr4, hp4.same fun i _ hi => ?_, ?_⟩
          · rw [AH.setCells_row, if_neg (by omega), AH.setCells_row, if_neg (by omega)]
          · rw [evs1]; rfl
        · try simp (disch := first | omega | (simp only [L3] <;> omega)) only [Sall,evalOp,init,binA_s,binE,binI,unE,convE,okNil,builtE,gv,TD.isAgg,resV,↓reduceIte,Nat.reduceEqDiff,reduceCtorEq,Nat.reduceAdd,Nat.reduceMul,Nat.reduceLeDiff,za0,za1,Int.reduceEq,Int.reduceLT,Int.reduceLE,Nat.reduceLT,tiA, h8, h7, h2, h1, h3, w64]
          have hbb : b = (pairsL (rnd l a) n).length := by omega
          refine ⟨R - (a + 1), by omega, a + 1, rfl, by omega, by omega, hup4, by omega, hr4, ?_⟩
          rw [zbH, ← hbb]; exact hr5
    · try simp (disch := first | omega | (simp only [L3] <;> omega)) only [Sall,evalOp,init,binA_s,binE,binI,unE,convE,okNil,builtE,gv,TD.isAgg,resV,↓reduceIte,Nat.reduceEqDiff,reduceCtorEq,Nat.reduceAdd,Nat.reduceMul,Nat.reduceLeDiff,za0,za1,Int.reduceEq,Int.reduceLT,Int.reduceLE,Nat.reduceLT,tiA, h7]
      have ha : a = R := by omega
      subst ha
      exact ⟨hup, (zaS n _ _).trans (Nat.mul_one n).symm, .inr ⟨H.next + 1, by omega, by omega, rfl, hr2⟩⟩
def sumF (third : Bool) (pts : List Int) (b o : Int) : Int := IntKind.i64.wrap ((if third = true then o else 1) * pts.getD b.toNat 0)
theorem l10Sums_c (n : Nat) (v : Value) (k : Nat) (l : List Int) (x : Value) (ll : List (List Int)) (third : Bool) (H : AH) (hb : schedB n k l = true) (hres : resB n k l ll = true) (hl : ll.length ≤ 4294967296) (hv : Rd 14 H v k l) (hx : Rd2 1 H x ll) :
    ACalls Tryz.prog 269 [.agg #[.int .i64 n, v], x, .bool third] H (fun u H' => Up H.next H H' ∧ Fr 1 2 H.next H'.next H' u n (sumsF n (sumF third (sumsF n (fun _ o => o) (meets n l ll ll.length))) (meets n l ll ll.length))) := by
  refine ACalls.wf (by kernel_rfl) fun hs => za3 [.tmp 6] Tryz.func269 (by kernel_rfl) rfl rfl (Nat.le_of_ble_eq_true rfl) (by kernel_rfl) ?_
  obtain ⟨hn, hk40, hrounds⟩ := zaC hb
  obtain ⟨hlk, hrs⟩ := zcY hres
  have hone := hv.one
  obtain ⟨pts, hpts⟩ : ∃ pts, pts = sumsF n (fun _ o => o) (meets n l ll ll.length) := ⟨_, rfl⟩
  rw [← hpts]
  have up : Up H.next H (H.push ⟨26, true, [.int .i64 n, v]⟩) := (Up.refl _ H).push (Nat.le_refl _) _
  have e1 : (H.push ⟨26, true, [.int .i64 n, v]⟩).row H.next = some ⟨26, true, [.int .i64 n, v]⟩ := by rw [AH.push_row, if_pos rfl]
  have n1 : (H.push ⟨26, true, [.int .i64 n, v]⟩).next = H.next + 1 := rfl
  try simp (disch := first | omega | (simp only [L3] <;> omega)) only [Sall,evalOp,init,binA_s,binE,binI,unE,convE,okNil,builtE,gv,TD.isAgg,resV,↓reduceIte,Nat.reduceEqDiff,reduceCtorEq,Nat.reduceAdd,Nat.reduceMul,Nat.reduceLeDiff,za0,za1,Int.reduceEq,Int.reduceLT,Int.reduceLE,Nat.reduceLT,tiA, hone]
  have sc1 : Sc (H.push ⟨26, true, [.int .i64 n, v]⟩) := Sc.push hs _
  revert up e1 n1 sc1
  generalize H.push ⟨26, true, [.int .i64 n, v]⟩ = H1
  intro up e1 n1 sc1
  have hv1 := hv.same (up.le hs).row
  have hx1 := hx.same (up.le hs).row
  refine zdJ (fun t H2 => ∃ (pu : Value) (oi lo hi : Nat), t 7 = pu ∧ t 8 = .slice (some ⟨oi, 0, some 1⟩) n n ∧ t 1 = x ∧ t 2 = .bool third ∧ t 3 = .pointer (some ⟨H.next, 0, none⟩) ∧ Up H.next H H2 ∧ H2.row H.next = some ⟨26, true, [.int .i64 n, v]⟩ ∧ H2.row oi = some ⟨2, true, ints (List.replicate n 0)⟩ ∧ Fr 1 2 lo hi H2 pu n pts ∧ H.next < lo ∧ hi ≤ H2.next ∧ H.next < oi ∧ oi < H2.next ∧ (oi < lo ∨ hi ≤ oi)) ?_ ?_
  · refine zhQ (OT.run [0, 1, 2, 3, 5, 6] (.two 4 7 (OT.run [8, 7, 9] .nil) (OT.run [4, 8, 9] .nil))) (by kernel_rfl) (by kernel_rfl) (Nat.le_of_ble_eq_true rfl) ?_
    try simp (disch := first | omega | (simp only [L3] <;> omega)) only [Sall,evalOp,init,binA_s,binE,binI,unE,convE,okNil,builtE,gv,TD.isAgg,resV,↓reduceIte,Nat.reduceEqDiff,reduceCtorEq,Nat.reduceAdd,Nat.reduceMul,Nat.reduceLeDiff,za0,za1,Int.reduceEq,Int.reduceLT,Int.reduceLE,Nat.reduceLT,tiA, zaF, zaE, za5, za4, e1, builtE, hx.len]
    refine awpT_two ?_ ?_
    · try simp (disch := first | omega | (simp only [L3] <;> omega)) only [Sall,evalOp,init,binA_s,binE,binI,unE,convE,okNil,builtE,gv,TD.isAgg,resV,↓reduceIte,Nat.reduceEqDiff,reduceCtorEq,Nat.reduceAdd,Nat.reduceMul,Nat.reduceLeDiff,za0,za1,Int.reduceEq,Int.reduceLT,Int.reduceLE,Nat.reduceLT,tiA, zaF, zaE, za5, za4]
      refine ACalls.wf (by kernel_rfl) fun hs1 => (zcQ n v k l x ll ll.length H1 hb hres (Nat.le_refl _) hl hv1 hx1).sc.mono ?_
      rintro pu H2 ⟨⟨up2, hf⟩, sc2⟩
      rw [← hpts] at hf
      have n2 := up2.next
      refine ⟨.inr (.inr (up2.le hs1)), ?_⟩
      refine Holds.mp ?_
      try simp (disch := first | omega | (simp only [L3] <;> omega)) only [Sall,evalOp,init,binA_s,binE,binI,unE,convE,okNil,builtE,gv,TD.isAgg,resV,↓reduceIte,Nat.reduceEqDiff,reduceCtorEq,Nat.reduceAdd,Nat.reduceMul,Nat.reduceLeDiff,za0,za1,Int.reduceEq,Int.reduceLT,Int.reduceLE,Nat.reduceLT,tiA, zaF, zaE, za5, za4, zcO]
      (repeat refine And.intro (by omega) ?_)
      refine ⟨.inr (.inr (sc2.le _)), ?_⟩
      refine ⟨pu, H2.next, H1.next, H2.next, ?_⟩
      try simp (disch := first | omega | (simp only [L3] <;> omega)) only [Sall,evalOp,init,binA_s,binE,binI,unE,convE,okNil,builtE,gv,TD.isAgg,resV,↓reduceIte,Nat.reduceEqDiff,reduceCtorEq,Nat.reduceAdd,Nat.reduceMul,Nat.reduceLeDiff,za0,za1,Int.reduceEq,Int.reduceLT,Int.reduceLE,Nat.reduceLT,tiA, true_and]
      refine ⟨(up.trans up2 (by omega)).push (by omega) _, ?_, hf.same fun i _ hi => by rw [AH.push_row, if_neg (by omega)], ?_⟩
      · rw [if_neg (by omega), up2.row _ (by omega), e1]
      · exact ⟨by omega, by omega, by omega, by omega, .inr trivial⟩
    · try simp (disch := first | omega | (simp only [L3] <;> omega)) only [Sall,evalOp,init,binA_s,binE,binI,unE,convE,okNil,builtE,gv,TD.isAgg,resV,↓reduceIte,Nat.reduceEqDiff,reduceCtorEq,Nat.reduceAdd,Nat.reduceMul,Nat.reduceLeDiff,za0,za1,Int.reduceEq,Int.reduceLT,Int.reduceLE,Nat.reduceLT,tiA, zaF, zaE, za5, za4, zcO]
      (repeat refine And.intro (by omega) ?_)
      refine ⟨.inr (.inr (sc1.le _)), ?_⟩
      obtain ⟨H2, e2⟩ : ∃ H2, H2 = H1.push ⟨2, true, ints (List.replicate n 0)⟩ := ⟨_, rfl⟩
      have n2 : H2.next = H1.next + 1 := by rw [e2]; rfl
      have r2 : H2.row H1.next = some ⟨2, true, ints (List.replicate n 0)⟩ := by rw [e2, AH.push_row, if_pos rfl]
      have s2 : ∀ i, i < H1.next → H2.row i = H1.row i := fun i hi => by rw [e2, AH.push_row, if_neg (by omega)]
      have sc2 : Sc H2 := by rw [e2]; exact sc1.push _
      have up2 : Up H.next H H2 := ⟨by have := up.next; omega, fun i hi => by rw [s2 i (by omega), up.row i hi]⟩
      rw [← e2]
      clear e2
      refine (zcQ n v k l x ll ll.length H2 hb hres (Nat.le_refl _) hl (hv.same (up2.le hs).row) (hx.same (up2.le hs).row)).mono ?_
      rintro pu H3 ⟨up3, hf⟩
      rw [← hpts] at hf
      have n3 := up3.next
      refine ⟨.inr (.inr (up3.le sc2)), ?_⟩
      refine Holds.mp ?_
      try simp (disch := first | omega | (simp only [L3] <;> omega)) only [Sall,evalOp,init,binA_s,binE,binI,unE,convE,okNil,builtE,gv,TD.isAgg,resV,↓reduceIte,Nat.reduceEqDiff,reduceCtorEq,Nat.reduceAdd,Nat.reduceMul,Nat.reduceLeDiff,za0,za1,Int.reduceEq,Int.reduceLT,Int.reduceLE,Nat.reduceLT,tiA, zaF, zaE, za5, za4]
      refine ⟨pu, H1.next, H2.next, H3.next, ?_⟩
      try simp (disch := first | omega | (simp only [L3] <;> omega)) only [Sall,evalOp,init,binA_s,binE,binI,unE,convE,okNil,builtE,gv,TD.isAgg,resV,↓reduceIte,Nat.reduceEqDiff,reduceCtorEq,Nat.reduceAdd,Nat.reduceMul,Nat.reduceLeDiff,za0,za1,Int.reduceEq,Int.reduceLT,Int.reduceLE,Nat.reduceLT,tiA, true_and]
      exact ⟨up2.trans up3 (by omega), by rw [up3.row _ (by omega), s2 _ (by omega), e1], by rw [up3.row _ (by omega), r2], hf, by omega, by omega, by omega, by omega⟩
  · rintro t H2 ⟨pu, oi, plo, phi, h7, h8, h1, h2, h3, u2, r0, ro, hf, b1, b2, b3, b4, b5⟩
    try simp (disch := first | omega | (simp only [L3] <;> omega)) only [Sall,evalOp,init,binA_s,binE,binI,unE,convE,okNil,builtE,gv,TD.isAgg,resV,↓reduceIte,Nat.reduceEqDiff,reduceCtorEq,Nat.reduceAdd,Nat.reduceMul,Nat.reduceLeDiff,za0,za1,Int.reduceEq,Int.reduceLT,Int.reduceLE,Nat.reduceLT,tiA, h7, h8, h1, h2, h3]
    refine za7 (fun m t H' => ∃ a : Nat, m = ll.length - a ∧ a ≤ ll.length ∧ t 9 = .int .i64 a ∧ t 8 = .slice (some ⟨oi, 0, some 1⟩) n n ∧ t 7 = pu ∧ t 2 = .bool third ∧ t 1 = x ∧ t 3 = .pointer (some ⟨H.next, 0, none⟩) ∧ Up H.next H H' ∧ H2.next ≤ H'.next ∧ H'.row H.next = some ⟨26, true, [.int .i64 n, v]⟩ ∧ Fr 1 2 plo phi H' pu n pts ∧ H'.row oi = some ⟨2, true, ints (sumsF n (sumF third pts) (meets n l ll a))⟩) ll.length ?_ ?_
    · refine ⟨0, by omega, by omega, ?_⟩
      try simp (disch := first | omega | (simp only [L3] <;> omega)) only [Sall,evalOp,init,binA_s,binE,binI,unE,convE,okNil,builtE,gv,TD.isAgg,resV,↓reduceIte,Nat.reduceEqDiff,reduceCtorEq,Nat.reduceAdd,Nat.reduceMul,Nat.reduceLeDiff,za0,za1,Int.reduceEq,Int.reduceLT,Int.reduceLE,Nat.reduceLT,tiA, Int.natCast_zero, zbW, zdW, h7, h8, h1, h2, h3]
      exact ⟨u2, r0, hf, ro⟩
    · rintro m t H' ⟨a, hm, h14, h9, h8, h7, h2, h1, h3, hup, hnx, hr1, hf', hr2⟩
      try simp (disch := first | omega | (simp only [L3] <;> omega)) only [Sall,evalOp,init,binA_s,binE,binI,unE,convE,okNil,builtE,gv,TD.isAgg,resV,↓reduceIte,Nat.reduceEqDiff,reduceCtorEq,Nat.reduceAdd,Nat.reduceMul,Nat.reduceLeDiff,za0,za1,Int.reduceEq,Int.reduceLT,Int.reduceLE,Nat.reduceLT,tiA, h9, h1, builtE, hx.len]
      refine za6 (fun h => ?_) (fun h => ?_)
      · obtain ⟨i, o, u, c, r, y, my, ex, hrB, hy, hsx, hok⟩ := hx.get (j := a) (by omega)
        obtain ⟨i', o', u', c', r', ev, hrB', hc', hs', hg'⟩ := hv.get (by omega)
        have hr' : H'.row i' = some r' := by rw [hup.row _ (hs _ _ hrB'), hrB']
        have hiB := hs _ _ hrB
        obtain ⟨hlen, hvals⟩ := hrs a (by omega)
        have hrl : (rnd l a).length = 14 := zbA l a k hv.1 (by omega)
        have hlh := hup.next
        refine zaR (by kernel_rfl) (by kernel_rfl) ?_
        try simp (disch := first | omega | (simp only [L3] <;> omega)) only [Sall,evalOp,init,binA_s,binE,binI,unE,convE,okNil,builtE,gv,TD.isAgg,resV,↓reduceIte,Nat.reduceEqDiff,reduceCtorEq,Nat.reduceAdd,Nat.reduceMul,Nat.reduceLeDiff,za0,za1,Int.reduceEq,Int.reduceLT,Int.reduceLE,Nat.reduceLT,tiA, h9, h3, hr1, ev, hr', hg']
        (repeat refine And.intro (by omega) ?_)
        refine ACalls.wf (by kernel_rfl) fun hs1 => (zcP n (rnd l a) hrl (by omega) H').mono ?_
        rintro p H3 ⟨up3, hp⟩
        have hpl := hp.rd.len
        refine ⟨.inr (.inr (up3.le hs1)), ?_⟩
        have n3 := up3.next
        have hr3 : H3.row H.next = some ⟨26, true, [.int .i64 n, v]⟩ := by rw [up3.row _ (by omega), hr1]
        have hr4 : H3.row oi = some ⟨2, true, ints (sumsF n (sumF third pts) (meets n l ll a))⟩ := by rw [up3.row _ (by omega), hr2]
        have hf3 : Fr 1 2 plo phi H3 pu n pts := hf'.same fun i _ hi => up3.row i (by omega)
        have hplen := zbE (rnd l a) n
        have hround := hrounds a (by omega)
        refine Holds.mp ?_
        try simp (disch := first | omega | (simp only [L3] <;> omega)) only [Sall,evalOp,init,binA_s,binE,binI,unE,convE,okNil,builtE,gv,TD.isAgg,resV,↓reduceIte,Nat.reduceEqDiff,reduceCtorEq,Nat.reduceAdd,Nat.reduceMul,Nat.reduceLeDiff,za0,za1,Int.reduceEq,Int.reduceLT,Int.reduceLE,Nat.reduceLT,tiA, h9, h8, h7, h2, h1, h3]
        refine za7 (fun z t H4 => ∃ b : Nat, z = (pairsL (rnd l a) n).length - b ∧ b ≤ (pairsL (rnd l a) n).length ∧ t 11 = .int .i64 b ∧ t 10 = p ∧ t 9 = .int .i64 a ∧ t 8 = .slice (some ⟨oi, 0, some 1⟩) n n ∧ t 7 = pu ∧ t 2 = .bool third ∧ t 1 = x ∧ t 3 = .pointer (some ⟨H.next, 0, none⟩) ∧ Up H.next H H4 ∧ H3.next ≤ H4.next ∧ H4.row H.next = some ⟨26, true, [.int .i64 n, v]⟩ ∧
            Fr2 1 33 2 H'.next H3.next H4 p (pairsL (rnd l a) n) ∧ Fr 1 2 plo phi H4 pu n pts ∧ H4.row oi = some ⟨2, true, ints (sumsF n (sumF third pts) (meets n l ll a ++ zaL n a (rnd l a) (ll.getD a []) b))⟩) (pairsL (rnd l a) n).length ?_ ?_
        · refine ⟨0, by omega, by omega, ?_⟩
          try simp (disch := first | omega | (simp only [L3] <;> omega)) only [Sall,evalOp,init,binA_s,binE,binI,unE,convE,okNil,builtE,gv,TD.isAgg,resV,↓reduceIte,Nat.reduceEqDiff,reduceCtorEq,Nat.reduceAdd,Nat.reduceMul,Nat.reduceLeDiff,za0,za1,Int.reduceEq,Int.reduceLT,Int.reduceLE,Nat.reduceLT,tiA, Int.natCast_zero, zc5, List.append_nil, h9, h8, h7, h2, h1, h3]
          exact ⟨hup.trans up3 hlh, hr3, hp, hf3, hr4⟩
        · rintro z t H4 ⟨b, hz, hbp, h11, h10, h9, h8, h7, h2, h1, h3, hup4, hn4, hr44, hp4, hf4, hr5⟩
          have hpl4 := hp4.rd.len
          try simp (disch := first | omega | (simp only [L3] <;> omega)) only [Sall,evalOp,init,binA_s,binE,binI,unE,convE,okNil,builtE,gv,TD.isAgg,resV,↓reduceIte,Nat.reduceEqDiff,reduceCtorEq,Nat.reduceAdd,Nat.reduceMul,Nat.reduceLeDiff,za0,za1,Int.reduceEq,Int.reduceLT,Int.reduceLE,Nat.reduceLT,tiA, h11, h10, builtE, hpl4]
          refine za6 (fun hh => ?_) (fun hh => ?_)
          · obtain ⟨pi, pvs, px, pm, pb, pc, rfl, q1, q2, q3, q4, q5, q6, q7, q8⟩ := hp4.getF (j := b) (by omega)
            have hpm := q8.lenK1
            obtain ⟨aa, ha1, ha2, ha3⟩ := zbD (rnd l a) n b (by omega)
            obtain ⟨_, ha4, ha5, _⟩ := zb3 hround (a := aa) (by omega)
            have hmy := hsx.lenK1
            obtain ⟨i5, o5, u5, c5, r5, rfl, gB, g2, g3, _⟩ := hsx.get (by omega)
            have hi5 := hs _ _ gB
            have g1 : H4.row i5 = some r5 := by rw [hup4.row _ hi5, gB]
            have gr : H4.row i = some r := by rw [hup4.row _ hiB, hrB]
            have g4 := g3 b (by omega)
            rw [ha3] at q8 hpm
            simp only [List.length_cons, List.length_nil] at hpm
            obtain rfl : pm = 2 := hpm
            obtain ⟨i6, w1, w2, rfl, w3⟩ := q8.get (by omega)
            obtain ⟨i7, k1, k2, rfl, k3⟩ := hf4.get (by omega)
            have hpl := hf4.1
            have evs0 : meets n l ll a ++ zaL n a (rnd l a) (ll.getD a []) (b + 1) = ((meets n l ll a ++ zaL n a (rnd l a) (ll.getD a []) b) ++ [(a, (aa : Int), (rnd l a).getD aa 0, wonI ((ll.getD a []).getD b 0))]) ++ [(a, (rnd l a).getD aa 0, (aa : Int), 2 - wonI ((ll.getD a []).getD b 0))] := by
              rw [zbL, ha3]; simp [evPair]
            have i0 : (ints [(aa : Int), (rnd l a).getD aa 0])[Int.toNat 0]? = some (.int .i64 aa) := rfl
            have i1 : (ints [(aa : Int), (rnd l a).getD aa 0])[Int.toNat 1]? = some (.int .i64 ((rnd l a).getD aa 0)) := rfl
            have hsl := zaS n (sumF third pts) (meets n l ll a ++ zaL n a (rnd l a) (ll.getD a []) b)
            have evs1 : sumsF n (sumF third pts) (meets n l ll a ++ zaL n a (rnd l a) (ll.getD a []) (b + 1)) = addAt (addAt (sumsF n (sumF third pts) (meets n l ll a ++ zaL n a (rnd l a) (ll.getD a []) b)) aa (sumF third pts ((rnd l a).getD aa 0) (wonI ((ll.getD a []).getD b 0)))) ((rnd l a).getD aa 0) (sumF third pts aa (2 - wonI ((ll.getD a []).getD b 0))) := by
              rw [evs0, zcC, zcC]
            revert hr5 hsl evs1
            generalize sumsF n (sumF third pts) (meets n l ll a ++ zaL n a (rnd l a) (ll.getD a []) b) = A
            intro hr5 hsl evs1
            have ne1 : ¬ pi = oi := by omega
            have ne2 : ¬ i6 = oi := by omega
            have ne3 : ¬ i7 = oi := by omega
            have ne4 : ¬ H.next = oi := by omega
            refine zaR (by kernel_rfl) (by kernel_rfl) ?_
            try simp (disch := first | omega | (simp only [L3] <;> omega)) only [Sall,evalOp,init,binA_s,binE,binI,unE,convE,okNil,builtE,gv,TD.isAgg,resV,↓reduceIte,Nat.reduceEqDiff,reduceCtorEq,Nat.reduceAdd,Nat.reduceMul,Nat.reduceLeDiff,za0,za1,Int.reduceEq,Int.reduceLT,Int.reduceLE,Nat.reduceLT,tiA, h11, h10, q3, q5, w3, i0, i1]
            (repeat refine And.intro (by omega) ?_)
            refine Holds.mp ?_
            cases third <;> rw [zcW]
            · try simp (disch := first | omega | (simp only [L3] <;> omega)) only [Sall,evalOp,init,binA_s,binE,binI,unE,convE,okNil,builtE,gv,TD.isAgg,resV,↓reduceIte,Nat.reduceEqDiff,reduceCtorEq,Nat.reduceAdd,Nat.reduceMul,Nat.reduceLeDiff,za0,za1,Int.reduceEq,Int.reduceLT,Int.reduceLE,Nat.reduceLT,tiA, h11, h10, h9, h8, h7, h2]
              refine zaR (by kernel_rfl) (by kernel_rfl) ?_
              try simp (disch := first | omega | (simp only [L3] <;> omega)) only [Sall,evalOp,init,binA_s,binE,binI,unE,convE,okNil,builtE,gv,TD.isAgg,resV,↓reduceIte,Nat.reduceEqDiff,reduceCtorEq,Nat.reduceAdd,Nat.reduceMul,Nat.reduceLeDiff,za0,za1,Int.reduceEq,Int.reduceLT,Int.reduceLE,Nat.reduceLT,tiA, h8, h7, hr5, k3, ints_get?, zaH]
              try simp only [List.length_set]
              (repeat refine And.intro (by omega) ?_)
              refine ⟨.inr (.inl (by kernel_rfl)), ?_⟩
              refine Holds.mp ?_
              try simp (disch := first | omega | (simp only [L3] <;> omega)) only [Sall,evalOp,init,binA_s,binE,binI,unE,convE,okNil,builtE,gv,TD.isAgg,resV,↓reduceIte,Nat.reduceEqDiff,reduceCtorEq,Nat.reduceAdd,Nat.reduceMul,Nat.reduceLeDiff,za0,za1,Int.reduceEq,Int.reduceLT,Int.reduceLE,Nat.reduceLT,tiA, h11, h10, h9, h8, h7, h2, h1, h3]
              refine zaR (by kernel_rfl) (by kernel_rfl) ?_
              try simp (disch := first | omega | (simp only [L3] <;> omega)) only [Sall,evalOp,init,binA_s,binE,binI,unE,convE,okNil,builtE,gv,TD.isAgg,resV,↓reduceIte,Nat.reduceEqDiff,reduceCtorEq,Nat.reduceAdd,Nat.reduceMul,Nat.reduceLeDiff,za0,za1,Int.reduceEq,Int.reduceLT,Int.reduceLE,Nat.reduceLT,tiA, h8, h7, hr5, k3, ne3, ints_get?, zaH]
              try simp only [List.length_set]
              (repeat refine And.intro (by omega) ?_)
              refine ⟨.inr (.inl (by kernel_rfl)), ?_⟩
              refine Holds.mp ?_
              try simp (disch := first | omega | (simp only [L3] <;> omega)) only [Sall,evalOp,init,binA_s,binE,binI,unE,convE,okNil,builtE,gv,TD.isAgg,resV,↓reduceIte,Nat.reduceEqDiff,reduceCtorEq,Nat.reduceAdd,Nat.reduceMul,Nat.reduceLeDiff,za0,za1,Int.reduceEq,Int.reduceLT,Int.reduceLE,Nat.reduceLT,tiA, h11, h10, h9, h8, h7, h2, h1, h3, w64, ne4]
              refine ⟨(pairsL (rnd l a) n).length - (b + 1), by omega, b + 1, rfl, by omega, by omega, (hup4.set (by omega) _).set (by omega) _, hn4, hr44, hp4.same fun i _ hi => ?_, hf4.same fun i hi1 hi2 => ?_, ?_⟩
              · rw [AH.setCells_row, if_neg (by omega), AH.setCells_row, if_neg (by omega)]
              · rw [AH.setCells_row, if_neg (by omega), AH.setCells_row, if_neg (by omega)]
              · rw [hr5, evs1]; rfl
            · try simp (disch := first | omega | (simp only [L3] <;> omega)) only [Sall,evalOp,init,binA_s,binE,binI,unE,convE,okNil,builtE,gv,TD.isAgg,resV,↓reduceIte,Nat.reduceEqDiff,reduceCtorEq,Nat.reduceAdd,Nat.reduceMul,Nat.reduceLeDiff,za0,za1,Int.reduceEq,Int.reduceLT,Int.reduceLE,Nat.reduceLT,tiA, h11, h10, h9, h8, h7, h2, h1, ex, gr, hy, hok, g1, g4]
              (repeat refine And.intro (by omega) ?_)
              refine (zhA _ _).to ?_
              try simp (disch := first | omega | (simp only [L3] <;> omega)) only [Sall,evalOp,init,binA_s,binE,binI,unE,convE,okNil,builtE,gv,TD.isAgg,resV,↓reduceIte,Nat.reduceEqDiff,reduceCtorEq,Nat.reduceAdd,Nat.reduceMul,Nat.reduceLeDiff,za0,za1,Int.reduceEq,Int.reduceLT,Int.reduceLE,Nat.reduceLT,tiA, h11, h10, h9, h8, h7, h2]
              refine zaR (by kernel_rfl) (by kernel_rfl) ?_
              try simp (disch := first | omega | (simp only [L3] <;> omega)) only [Sall,evalOp,init,binA_s,binE,binI,unE,convE,okNil,builtE,gv,TD.isAgg,resV,↓reduceIte,Nat.reduceEqDiff,reduceCtorEq,Nat.reduceAdd,Nat.reduceMul,Nat.reduceLeDiff,za0,za1,Int.reduceEq,Int.reduceLT,Int.reduceLE,Nat.reduceLT,tiA, h8, h7, hr5, k3, ints_get?, zaH]
              try simp only [List.length_set]
              (repeat refine And.intro (by omega) ?_)
              refine ⟨.inr (.inl (by kernel_rfl)), ?_⟩
              refine Holds.mp ?_
              try simp (disch := first | omega | (simp only [L3] <;> omega)) only [Sall,evalOp,init,binA_s,binE,binI,unE,convE,okNil,builtE,gv,TD.isAgg,resV,↓reduceIte,Nat.reduceEqDiff,reduceCtorEq,Nat.reduceAdd,Nat.reduceMul,Nat.reduceLeDiff,za0,za1,Int.reduceEq,Int.reduceLT,Int.reduceLE,Nat.reduceLT,tiA, h11, h10, h9, h8, h7, h2, h1, h3]
              refine zaR (by kernel_rfl) (by kernel_rfl) ?_
              try simp (disch := first | omega | (simp only [L3] <;> omega)) only [Sall,evalOp,init,binA_s,binE,binI,unE,convE,okNil,builtE,gv,TD.isAgg,resV,↓reduceIte,Nat.reduceEqDiff,reduceCtorEq,Nat.reduceAdd,Nat.reduceMul,Nat.reduceLeDiff,za0,za1,Int.reduceEq,Int.reduceLT,Int.reduceLE,Nat.reduceLT,tiA, h8, h7, hr5, k3, ne3, ints_get?, zaH]
              try simp only [List.length_set]
              (repeat refine And.intro (by omega) ?_)
              refine ⟨.inr (.inl (by kernel_rfl)), ?_⟩
              refine Holds.mp ?_
              try simp (disch := first | omega | (simp only [L3] <;> omega)) only [Sall,evalOp,init,binA_s,binE,binI,unE,convE,okNil,builtE,gv,TD.isAgg,resV,↓reduceIte,Nat.reduceEqDiff,reduceCtorEq,Nat.reduceAdd,Nat.reduceMul,Nat.reduceLeDiff,za0,za1,Int.reduceEq,Int.reduceLT,Int.reduceLE,Nat.reduceLT,tiA, h11, h10, h9, h8, h7, h2, h1, h3, w64, ne4]
              refine ⟨(pairsL (rnd l a) n).length - (b + 1), by omega, b + 1, rfl, by omega, by omega, (hup4.set (by omega) _).set (by omega) _, hn4, hr44, hp4.same fun i _ hi => ?_, hf4.same fun i hi1 hi2 => ?_, ?_⟩
              · rw [AH.setCells_row, if_neg (by omega), AH.setCells_row, if_neg (by omega)]
              · rw [AH.setCells_row, if_neg (by omega), AH.setCells_row, if_neg (by omega)]
              · rw [hr5, evs1]; rfl
          · try simp (disch := first | omega | (simp only [L3] <;> omega)) only [Sall,evalOp,init,binA_s,binE,binI,unE,convE,okNil,builtE,gv,TD.isAgg,resV,↓reduceIte,Nat.reduceEqDiff,reduceCtorEq,Nat.reduceAdd,Nat.reduceMul,Nat.reduceLeDiff,za0,za1,Int.reduceEq,Int.reduceLT,Int.reduceLE,Nat.reduceLT,tiA, h9, h8, h7, h2, h1, h3, w64]
            have hbb : b = (pairsL (rnd l a) n).length := by omega
            refine ⟨ll.length - (a + 1), by omega, a + 1, rfl, by omega, by omega, hup4, by omega, hr44, hf4, ?_⟩
            rw [zbH, ← hbb]; exact hr5
      · try simp (disch := first | omega | (simp only [L3] <;> omega)) only [Sall,evalOp,init,binA_s,binE,binI,unE,convE,okNil,builtE,gv,TD.isAgg,resV,↓reduceIte,Nat.reduceEqDiff,reduceCtorEq,Nat.reduceAdd,Nat.reduceMul,Nat.reduceLeDiff,za0,za1,Int.reduceEq,Int.reduceLT,Int.reduceLE,Nat.reduceLT,tiA, h8]
        have ha : a = ll.length := by omega
        subst ha
        exact ⟨hup, (zaS n _ _).trans (Nat.mul_one n).symm, .inr ⟨oi, by omega, by omega, rfl, hr2⟩⟩
end Go.Proofs.YtpienljnoaendaaGreat.A
end

section
set_option maxRecDepth 100000
set_option maxHeartbeats 2000000
namespace Go.Proofs.YtpienljnoaendaaGreat.A
open Go Go.Abs Go.RowKit
theorem zbF {q : Int} {k : Nat} {l : List Int} {b : Bool} (h : schedB q k l = true) (hb : b = true) : codeS q k l b = 0 := by unfold codeS; rw [if_pos h, if_pos hb]
theorem zcH {q : Int} {k : Nat} {l : List Int} {b : Bool} (h : ¬ (schedB q k l = true ∧ b = true)) : (codeS q k l b != 0) = true := by
  unfold codeS
  split
  · rename_i h1
    rw [if_neg (fun h2 => h ⟨h1, h2⟩)]; rfl
  · rfl
theorem fr_nil (ty lo hi : Nat) (H : AH) : Fr 1 ty lo hi H (.slice none 0 0) 0 [] := ⟨rfl, .inl ⟨rfl, rfl⟩⟩
def ptsR (q : Int) (k : Nat) (l : List Int) (ll : List (List Int)) : List Int := if schedB q k l = true ∧ resB q.toNat k l ll = true then sumsF q.toNat (fun _ o => o) (meets q.toNat l ll ll.length) else []
theorem second_sum (n : Nat) (l : List Int) (ll : List (List Int)) : sumsF n (fun b _ => (sumsF n (fun _ o => o) (meets n l ll ll.length)).getD b.toNat 0) (meets n l ll ll.length) = sumsF n (sumF false (sumsF n (fun _ o => o) (meets n l ll ll.length))) (meets n l ll ll.length) := by
  refine zfU (fun b o => ?_) _
  unfold sumF
  rw [if_neg (by simp), Int.one_mul, w64 (zfR _ _ _ _)]
theorem PointsOf_c (q : Int) (v : Value) (k : Nat) (l : List Int) (x : Value) (ll : List (List Int)) (H : AH) (hv : Rd 14 H v k l) (hk : k ≤ 4294967296) (hx : Rd2 1 H x ll) (hl : ll.length ≤ 4294967296) (hl2 : ∀ y ∈ ll, y.length ≤ 4294967296) :
    ACalls Tryz.prog 61 [.agg #[.int .i64 q, v], x] H (fun r H' => ∃ u, r = .tuple #[u, .int .i64 (codeS q k l (resB q.toNat k l ll))] ∧ Up H.next H H' ∧ Fr 1 2 H.next H'.next H' u (ptsR q k l ll).length (ptsR q k l ll)) := by
  refine ACalls.wf (by kernel_rfl) fun hs => za3 [.tmp 4, .tmp 5] Tryz.func61 (by kernel_rfl) rfl rfl (Nat.le_of_ble_eq_true rfl) (by kernel_rfl) ?_
  have hone := hv.one
  have up : Up H.next H (H.push ⟨26, true, [.int .i64 q, v]⟩) := (Up.refl _ H).push (Nat.le_refl _) _
  have e1 : (H.push ⟨26, true, [.int .i64 q, v]⟩).row H.next = some ⟨26, true, [.int .i64 q, v]⟩ := by rw [AH.push_row, if_pos rfl]
  have n1 : (H.push ⟨26, true, [.int .i64 q, v]⟩).next = H.next + 1 := rfl
  try simp (disch := first | omega | (simp only [L3] <;> omega)) only [Sall,evalOp,init,binA_s,binE,binI,unE,convE,okNil,builtE,gv,TD.isAgg,resV,↓reduceIte,Nat.reduceEqDiff,reduceCtorEq,Nat.reduceAdd,Nat.reduceMul,Nat.reduceLeDiff,za0,za1,Int.reduceEq,Int.reduceLT,Int.reduceLE,Nat.reduceLT,tiA, hone]
  revert up e1 n1
  generalize H.push ⟨26, true, [.int .i64 q, v]⟩ = H1
  intro up e1 n1
  have hv1 := hv.same (up.le hs).row
  have hx1 := hx.same (up.le hs).row
  refine (zbO q v k l x ll 105 [] true H1 hv1 hk hx1 hl hl2 fun H' _ _ _ => zh6 H').to ?_
  rw [Bool.and_true]
  by_cases hok : schedB q k l = true ∧ resB q.toNat k l ll = true
  · obtain ⟨hb, hres⟩ := hok
    obtain ⟨h2, _, _⟩ := zaC hb
    obtain ⟨n, rfl⟩ : ∃ n : Nat, q = n := ⟨q.toNat, by omega⟩
    unfold ptsR
    rw [if_pos ⟨hb, hres⟩, zbF hb hres]
    rw [Int.toNat_natCast] at hres ⊢
    try simp (disch := first | omega | (simp only [L3] <;> omega)) only [Sall,evalOp,init,binA_s,binE,binI,unE,convE,okNil,builtE,gv,TD.isAgg,resV,↓reduceIte,Nat.reduceEqDiff,reduceCtorEq,Nat.reduceAdd,Nat.reduceMul,Nat.reduceLeDiff,za0,za1,Int.reduceEq,Int.reduceLT,Int.reduceLE,Nat.reduceLT,tiA, bne_self_eq_false, e1, builtE, hx1.len]
    refine (zf6 n v k l x ll  H1 hb hres  hl hv1 hx1).mono ?_
    rintro u H2 ⟨up2, hf⟩
    have hu := hf.rd.one
    refine Holds.mp ?_
    try simp (disch := first | omega | (simp only [L3] <;> omega)) only [Sall,evalOp,init,binA_s,binE,binI,unE,convE,okNil,builtE,gv,TD.isAgg,resV,↓reduceIte,Nat.reduceEqDiff,reduceCtorEq,Nat.reduceAdd,Nat.reduceMul,Nat.reduceLeDiff,za0,za1,Int.reduceEq,Int.reduceLT,Int.reduceLE,Nat.reduceLT,tiA, hu]
    refine ⟨u, rfl, up.trans up2 (by omega), ?_⟩
    rw [zaS]
    exact hf.wide (by omega) (Nat.le_refl _)
  · have ec := zcH hok
    unfold ptsR
    rw [if_neg hok]
    try simp (disch := first | omega | (simp only [L3] <;> omega)) only [Sall,evalOp,init,binA_s,binE,binI,unE,convE,okNil,builtE,gv,TD.isAgg,resV,↓reduceIte,Nat.reduceEqDiff,reduceCtorEq,Nat.reduceAdd,Nat.reduceMul,Nat.reduceLeDiff,za0,za1,Int.reduceEq,Int.reduceLT,Int.reduceLE,Nat.reduceLT,tiA, ec]
    exact ⟨_, rfl, up, fr_nil _ _ _ _⟩
end Go.Proofs.YtpienljnoaendaaGreat.A
end

section
namespace Go.Abs
def btwStep (a b : Int) (s : Int × Int) (e : Ev) : Int × Int :=
  if e.2.1 = a ∧ e.2.2.1 = b then (IntKind.i64.wrap (s.1 + e.2.2.2), s.2) else if e.2.1 = b ∧ e.2.2.1 = a then (s.1, IntKind.i64.wrap (s.2 + e.2.2.2)) else s
def btw (a b : Int) (es : List Ev) : Int × Int := es.foldl (btwStep a b) (0, 0)
theorem btw_nil (a b : Int) : btw a b [] = (0, 0) := rfl
theorem zeP (a b : Int) (es : List Ev) (e : Ev) : btw a b (es ++ [e]) = btwStep a b (btw a b es) e := by simp [btw]
theorem btw_pair {a b : Int} (hab : a ≠ b) (es : List Ev) (i : Nat) (p r o : Int) :
    btw a b ((es ++ [(i, p, r, o)]) ++ [(i, r, p, 2 - o)]) = if p = a ∧ r = b then (IntKind.i64.wrap ((btw a b es).1 + o), IntKind.i64.wrap ((btw a b es).2 + (2 - o))) else if p = b ∧ r = a then (IntKind.i64.wrap ((btw a b es).1 + (2 - o)), IntKind.i64.wrap ((btw a b es).2 + o)) else btw a b es := by
  rw [zeP, zeP]
  unfold btwStep
  by_cases h1 : p = a ∧ r = b
  · obtain ⟨rfl, rfl⟩ := h1
    simp [hab, Ne.symm hab]
  · by_cases h2 : p = b ∧ r = a
    · obtain ⟨rfl, rfl⟩ := h2
      simp [hab, Ne.symm hab]
    · simp only [h1, h2, if_false]
      rw [if_neg (by rintro ⟨rfl, rfl⟩; exact h2 ⟨rfl, rfl⟩), if_neg (by rintro ⟨rfl, rfl⟩; exact h1 ⟨rfl, rfl⟩)]
def byRd (a : Int) (R : Nat) (es : List Ev) : List Int := es.foldl (fun l e => if e.2.1 = a then l.set (e.1 + 1) e.2.2.2 else l) (List.replicate (R + 1) 0)
theorem byRd_nil (a : Int) (R : Nat) : byRd a R [] = List.replicate (R + 1) 0 := rfl
theorem byRd_append (a : Int) (R : Nat) (es : List Ev) (e : Ev) : byRd a R (es ++ [e]) = if e.2.1 = a then (byRd a R es).set (e.1 + 1) e.2.2.2 else byRd a R es := by simp [byRd]
theorem zc2 (a : Int) (R : Nat) (es : List Ev) : (byRd a R es).length = R + 1 := by
  unfold byRd
  have : ∀ (es : List Ev) (l : List Int), (es.foldl (fun l e => if e.2.1 = a then l.set (e.1 + 1) e.2.2.2 else l) l).length = l.length := by
    intro es
    induction es with
    | nil => intro l; rfl
    | cons e es ih => intro l; rw [List.foldl_cons, ih]; split <;> simp
  rw [this, List.length_replicate]
def pref : Nat → List Int → List Int
  | 0, l => l
  | i + 1, l => (pref i l).set (i + 1) (IntKind.i64.wrap ((pref i l).getD (i + 1) 0 + (pref i l).getD i 0))
theorem zcM (i : Nat) (l : List Int) : (pref i l).length = l.length := by
  induction i with
  | zero => rfl
  | succ i ih => simp [pref, ih]
def ptsBy (n : Nat) (l : List Int) (ll : List (List Int)) (a : Nat) (m : Nat) : List Int := (List.range m).map fun i => (sumsF n (fun _ o => o) (meets n l ll i)).getD a 0
theorem zcD (n : Nat) (l : List Int) (ll : List (List Int)) (a m : Nat) : (ptsBy n l ll a m).length = m := by simp [ptsBy]
theorem ptsBy_succ (n : Nat) (l : List Int) (ll : List (List Int)) (a m : Nat) : ptsBy n l ll a (m + 1) = ptsBy n l ll a m ++ [(sumsF n (fun _ o => o) (meets n l ll m)).getD a 0] := by simp [ptsBy, List.range_succ]
end Go.Abs
end

section
set_option maxRecDepth 100000
set_option maxHeartbeats 2000000
namespace Go.Proofs.YtpienljnoaendaaGreat.A
open Go Go.Abs Go.RowKit
theorem zd5 (q : Int) (v : Value) (a : Int) (H : AH) (hq : 2 ≤ q ∧ q ≤ 14) (hone : v.oneCell' = true) : ACalls Tryz.prog 137 [.agg #[.int .i64 q, v], .int .i64 a] H (is (.bool (decide (0 ≤ a ∧ a ≤ q - 1))) H) := by
  refine zaZ rfl (za3 [.tmp 4] Tryz.func137 (by kernel_rfl) rfl rfl (Nat.le_of_ble_eq_true rfl) (by kernel_rfl) ?_)
  have up : Up H.next H (H.push ⟨26, true, [.int .i64 q, v]⟩) := (Up.refl _ H).push (Nat.le_refl _) _
  try simp (disch := first | omega | (simp only [L3] <;> omega)) only [Sall,evalOp,init,binA_s,binE,binI,unE,convE,okNil,builtE,gv,TD.isAgg,resV,↓reduceIte,Nat.reduceEqDiff,reduceCtorEq,Nat.reduceAdd,Nat.reduceMul,Nat.reduceLeDiff,za0,za1,Int.reduceEq,Int.reduceLT,Int.reduceLE,Nat.reduceLT,tiA, hone, w64]
  refine (zdO _ _ _ _).to ?_
  try simp (disch := first | omega | (simp only [L3] <;> omega)) only [Sall,evalOp,init,binA_s,binE,binI,unE,convE,okNil,builtE,gv,TD.isAgg,resV,↓reduceIte,Nat.reduceEqDiff,reduceCtorEq,Nat.reduceAdd,Nat.reduceMul,Nat.reduceLeDiff,za0,za1,Int.reduceEq,Int.reduceLT,Int.reduceLE,Nat.reduceLT,tiA, true_and]
  exact up
theorem ptsBetween1_c (q : Int) (v : Value) (a b : Int) (p0 p1 p2 : Nat) (H : AH) (hq : 2 ≤ q ∧ q ≤ 14) (hone : v.oneCell' = true) (h0 : H.row p0 = some ⟨26, true, [.int .i64 q, v]⟩) (h1 : H.row p1 = some ⟨2, true, [.int .i64 a]⟩) (h2 : H.row p2 = some ⟨2, true, [.int .i64 b]⟩) :
    ACalls Tryz.prog 176 [.pointer (some ⟨p0, 0, none⟩), .pointer (some ⟨p1, 0, none⟩), .pointer (some ⟨p2, 0, none⟩)] H (is (.bool (decide (0 ≤ a ∧ a ≤ q - 1) && decide (0 ≤ b ∧ b ≤ q - 1) && a != b)) H) := by
  refine za3 [.tmp 3] Tryz.func176 (by kernel_rfl) rfl rfl (Nat.le_of_ble_eq_true rfl) (by kernel_rfl) ?_
  try simp (disch := first | omega | (simp only [L3] <;> omega)) only [Sall,evalOp,init,binA_s,binE,binI,unE,convE,okNil,builtE,gv,TD.isAgg,resV,↓reduceIte,Nat.reduceEqDiff,reduceCtorEq,Nat.reduceAdd,Nat.reduceMul,Nat.reduceLeDiff,za0,za1,Int.reduceEq,Int.reduceLT,Int.reduceLE,Nat.reduceLT,tiA, h0, h1, hone]
  refine (zd5 q v a H hq hone).to ?_
  by_cases ha : 0 ≤ a ∧ a ≤ q - 1
  · try simp (disch := first | omega | (simp only [L3] <;> omega)) only [Sall,evalOp,init,binA_s,binE,binI,unE,convE,okNil,builtE,gv,TD.isAgg,resV,↓reduceIte,Nat.reduceEqDiff,reduceCtorEq,Nat.reduceAdd,Nat.reduceMul,Nat.reduceLeDiff,za0,za1,Int.reduceEq,Int.reduceLT,Int.reduceLE,Nat.reduceLT,tiA, ha, decide_true, h0, h1, h2, hone]
    refine (zd5 q v b H hq hone).to ?_
    by_cases hb : 0 ≤ b ∧ b ≤ q - 1
    · try simp (disch := first | omega | (simp only [L3] <;> omega)) only [Sall,evalOp,init,binA_s,binE,binI,unE,convE,okNil,builtE,gv,TD.isAgg,resV,↓reduceIte,Nat.reduceEqDiff,reduceCtorEq,Nat.reduceAdd,Nat.reduceMul,Nat.reduceLeDiff,za0,za1,Int.reduceEq,Int.reduceLT,Int.reduceLE,Nat.reduceLT,tiA, hb, decide_true, h0, h1, h2, is]
      rw [decide_eq_true ha]; rfl
    · try simp (disch := first | omega | (simp only [L3] <;> omega)) only [Sall,evalOp,init,binA_s,binE,binI,unE,convE,okNil,builtE,gv,TD.isAgg,resV,↓reduceIte,Nat.reduceEqDiff,reduceCtorEq,Nat.reduceAdd,Nat.reduceMul,Nat.reduceLeDiff,za0,za1,Int.reduceEq,Int.reduceLT,Int.reduceLE,Nat.reduceLT,tiA, hb, decide_false, h0, h1, h2, is]
      rw [decide_eq_true ha]; rfl
  · try simp (disch := first | omega | (simp only [L3] <;> omega)) only [Sall,evalOp,init,binA_s,binE,binI,unE,convE,okNil,builtE,gv,TD.isAgg,resV,↓reduceIte,Nat.reduceEqDiff,reduceCtorEq,Nat.reduceAdd,Nat.reduceMul,Nat.reduceLeDiff,za0,za1,Int.reduceEq,Int.reduceLT,Int.reduceLE,Nat.reduceLT,tiA, ha, decide_false, h0, h1, h2, is, Bool.false_and]
theorem ptsBetween2_c (rd : Nat) (c d o a b s1 s2 : Int) (p0 p1 p2 p3 : Nat) (H : AH) (h0 : H.row p0 = some ⟨2, true, [.int .i64 a]⟩) (h1 : H.row p1 = some ⟨2, true, [.int .i64 b]⟩) (h2 : H.row p2 = some ⟨2, true, [.int .i64 s1]⟩) (h3 : H.row p3 = some ⟨2, true, [.int .i64 s2]⟩) :
    ACalls Tryz.prog 178 [.int .i64 rd, .int .i64 c, .int .i64 d, .int .i64 o, .pointer (some ⟨p0, 0, none⟩), .pointer (some ⟨p1, 0, none⟩), .pointer (some ⟨p2, 0, none⟩), .pointer (some ⟨p3, 0, none⟩)] H
      (fun _ H' => H' = if c = a ∧ d = b then H.setCells p2 [.int .i64 (IntKind.i64.wrap (s1 + o))] else if c = b ∧ d = a then H.setCells p3 [.int .i64 (IntKind.i64.wrap (s2 + o))] else H) := by
  refine za3 [] Tryz.func178 (by kernel_rfl) rfl rfl (Nat.le_of_ble_eq_true rfl) (by kernel_rfl) ?_
  refine Holds.mp ?_
  have B : ∀ x y : Int, ((x == y) = true ∧ x = y) ∨ ((x == y) = false ∧ ¬ x = y) := fun x y => by
    by_cases h : x = y
    · exact .inl ⟨by simpa using h, h⟩
    · exact .inr ⟨by simpa using h, h⟩
  rcases B c a with ⟨e1, f1⟩ | ⟨e1, f1⟩ <;> rcases B d b with ⟨e2, f2⟩ | ⟨e2, f2⟩ <;> rcases B c b with ⟨e3, f3⟩ | ⟨e3, f3⟩ <;> rcases B d a with ⟨e4, f4⟩ | ⟨e4, f4⟩ <;> rw [zcW]
  all_goals
    try simp (disch := first | omega | (simp only [L3] <;> omega)) only [Sall,evalOp,init,binA_s,binE,binI,unE,convE,okNil,builtE,gv,TD.isAgg,resV,↓reduceIte,Nat.reduceEqDiff,reduceCtorEq,Nat.reduceAdd,Nat.reduceMul,Nat.reduceLeDiff,za0,za1,Int.reduceEq,Int.reduceLT,Int.reduceLE,Nat.reduceLT,tiA, h0, h1, h2, h3, e1, e2, e3, e4]
    first | (rw [if_pos ⟨f1, f2⟩]; done) | (rw [if_neg (fun h => f1 h.1), if_pos ⟨f3, f4⟩]; done) | (rw [if_neg (fun h => f2 h.2), if_pos ⟨f3, f4⟩]; done) | (rw [if_neg (fun h => f1 h.1), if_neg (fun h => f3 h.1)]; done) | (rw [if_neg (fun h => f1 h.1), if_neg (fun h => f4 h.2)]; done) | (rw [if_neg (fun h => f2 h.2), if_neg (fun h => f3 h.1)]; done) | (rw [if_neg (fun h => f2 h.2), if_neg (fun h => f4 h.2)]; done)
def twoB (q a b : Int) : Bool := decide (0 ≤ a ∧ a ≤ q - 1) && decide (0 ≤ b ∧ b ≤ q - 1) && a != b
def btwR (q : Int) (k : Nat) (l : List Int) (ll : List (List Int)) (a b : Int) : Int × Int := if schedB q k l = true ∧ (resB q.toNat k l ll && twoB q a b) = true then btw a b (meets q.toNat l ll ll.length) else (0, 0)
theorem PointsBetween_c (q : Int) (v : Value) (k : Nat) (l : List Int) (x : Value) (ll : List (List Int)) (a b : Int) (H : AH) (hv : Rd 14 H v k l) (hk : k ≤ 4294967296) (hx : Rd2 1 H x ll) (hl : ll.length ≤ 4294967296) (hl2 : ∀ y ∈ ll, y.length ≤ 4294967296)
    (_ : -9223372036854775808 ≤ a ∧ a ≤ 9223372036854775807) (_ : -9223372036854775808 ≤ b ∧ b ≤ 9223372036854775807) :
    ACalls Tryz.prog 54 [.agg #[.int .i64 q, v], x, .int .i64 a, .int .i64 b] H (is (.tuple #[.int .i64 (btwR q k l ll a b).1, .int .i64 (btwR q k l ll a b).2, .int .i64 (codeS q k l (resB q.toNat k l ll && twoB q a b))]) H) := by
  refine ACalls.wf (by kernel_rfl) fun hs => zaZ (by simp [flat, Abs.scal]) (za3 [.tmp 8, .tmp 9, .tmp 10] Tryz.func54 (by kernel_rfl) rfl rfl (Nat.le_of_ble_eq_true rfl) (by kernel_rfl) ?_)
  have hone := hv.one
  try simp (disch := first | omega | (simp only [L3] <;> omega)) only [Sall,evalOp,init,binA_s,binE,binI,unE,convE,okNil,builtE,gv,TD.isAgg,resV,↓reduceIte,Nat.reduceEqDiff,reduceCtorEq,Nat.reduceAdd,Nat.reduceMul,Nat.reduceLeDiff,za0,za1,Int.reduceEq,Int.reduceLT,Int.reduceLE,Nat.reduceLT,tiA, hone]
  obtain ⟨H1, eg⟩ : ∃ H1, H1 = ((H.push ⟨26, true, [.int .i64 q, v]⟩).push ⟨2, true, [.int .i64 a]⟩).push ⟨2, true, [.int .i64 b]⟩ := ⟨_, rfl⟩
  have up : Up H.next H H1 := by rw [eg]; exact (((Up.refl _ H).push (by omega) _).push (by simp only [AH.push_next]; omega) _).push (by simp only [AH.push_next]; omega) _
  have g0 : H1.row H.next = some ⟨26, true, [.int .i64 q, v]⟩ := by rw [eg]; (simp [AH.setCells_row, AH.push_row, AH.push_next] <;> (try omega) <;> (repeat rw [if_neg (by omega)]))
  have g1 : H1.row (H.next + 1) = some ⟨2, true, [.int .i64 a]⟩ := by rw [eg]; (simp [AH.setCells_row, AH.push_row, AH.push_next] <;> (try omega) <;> (repeat rw [if_neg (by omega)]))
  have g2 : H1.row (H.next + 2) = some ⟨2, true, [.int .i64 b]⟩ := by rw [eg]; (simp [AH.setCells_row, AH.push_row, AH.push_next] <;> (try omega) <;> (repeat rw [if_neg (by omega)]))
  have n1 : H1.next = H.next + 3 := by rw [eg]; rfl
  rw [← eg]
  clear eg
  have hv1 := hv.same (up.le hs).row
  have hx1 := hx.same (up.le hs).row
  try simp (disch := first | omega | (simp only [L3] <;> omega)) only [Sall,evalOp,init,binA_s,binE,binI,unE,convE,okNil,builtE,gv,TD.isAgg,resV,↓reduceIte,Nat.reduceEqDiff,reduceCtorEq,Nat.reduceAdd,Nat.reduceMul,Nat.reduceLeDiff,za0,za1,Int.reduceEq,Int.reduceLT,Int.reduceLE,Nat.reduceLT,tiA, hone, g0, List.mem_cons, List.not_mem_nil, or_false, forall_eq_or_imp, forall_eq, Array.size_empty]
  refine (zbO q v k l x ll 176 [.pointer (some ⟨H.next, 0, none⟩), .pointer (some ⟨H.next + 1, 0, none⟩), .pointer (some ⟨H.next + 2, 0, none⟩)] (twoB q a b) H1 hv1 hk hx1 hl hl2 ?_).to ?_
  · intro H' up' hb _
    obtain ⟨h2, _, _⟩ := zaC hb
    exact ptsBetween1_c q v a b _ _ _ H' h2 hone (by rw [up'.row _ (by omega), g0]) (by rw [up'.row _ (by omega), g1]) (by rw [up'.row _ (by omega), g2])
  by_cases hok : schedB q k l = true ∧ (resB q.toNat k l ll && twoB q a b) = true
  · obtain ⟨hb, hok2⟩ := hok
    unfold btwR
    rw [if_pos ⟨hb, hok2⟩, zbF hb hok2]
    rw [Bool.and_eq_true] at hok2
    obtain ⟨hres, htwo⟩ := hok2
    obtain ⟨h2, _, _⟩ := zaC hb
    obtain ⟨n, rfl⟩ : ∃ n : Nat, q = n := ⟨q.toNat, by omega⟩
    rw [Int.toNat_natCast] at hres ⊢
    have ne1 : ¬ H.next + 3 = H.next + 4 := by omega
    have ne2 : ¬ H.next = H.next + 2 + 2 := by omega
    have ne3 : ¬ H.next = H.next + 3 := by omega
    try simp (disch := first | omega | (simp only [L3] <;> omega)) only [Sall,evalOp,init,binA_s,binE,binI,unE,convE,okNil,builtE,gv,TD.isAgg,resV,↓reduceIte,Nat.reduceEqDiff,reduceCtorEq,Nat.reduceAdd,Nat.reduceMul,Nat.reduceLeDiff,za0,za1,Int.reduceEq,Int.reduceLT,Int.reduceLE,Nat.reduceLT,tiA, bne_self_eq_false, n1, ne2, ne3, g0]
    obtain ⟨Hg, eg⟩ : ∃ Hg, Hg = (((H1.push ⟨2, true, [.int .i64 0]⟩).push ⟨2, true, [.int .i64 0]⟩).setCells (H.next + 3) [.int .i64 0]).setCells (H.next + 4) [.int .i64 0] := ⟨_, rfl⟩
    have up2 : Up H.next H Hg := by rw [eg]; exact (((up.push (by omega) _).push (by simp only [AH.push_next]; omega) _).set (by omega) _).set (by omega) _
    have ng : Hg.next = H.next + 5 := by rw [eg]; simp only [AH.setCells_next, AH.push_next]; omega
    have old : ∀ i, i < H.next + 3 → Hg.row i = H1.row i := fun i hi => by rw [eg, AH.setCells_row, if_neg (by omega), AH.setCells_row, if_neg (by omega), AH.push_row, if_neg (by rw [AH.push_next]; omega), AH.push_row, if_neg (by omega)]
    have g3 : Hg.row (H.next + 3) = some ⟨2, true, [.int .i64 0]⟩ := by rw [eg, AH.setCells_row, if_neg (by omega), AH.setCells_row, if_pos rfl, AH.push_row, if_neg (by rw [AH.push_next]; omega), AH.push_row, if_pos (by omega)]; rfl
    have g4 : Hg.row (H.next + 4) = some ⟨2, true, [.int .i64 0]⟩ := by rw [eg, AH.setCells_row, if_pos rfl, AH.setCells_row, if_neg (by omega), AH.push_row, if_pos (by rw [AH.push_next]; omega)]; rfl
    rw [← eg]
    clear eg
    have k0 : Hg.row H.next = some ⟨26, true, [.int .i64 n, v]⟩ := by rw [old _ (by omega), g0]
    have k1 : Hg.row (H.next + 1) = some ⟨2, true, [.int .i64 a]⟩ := by rw [old _ (by omega), g1]
    have k2 : Hg.row (H.next + 2) = some ⟨2, true, [.int .i64 b]⟩ := by rw [old _ (by omega), g2]
    try simp (disch := first | omega | (simp only [L3] <;> omega)) only [Sall,evalOp,init,binA_s,binE,binI,unE,convE,okNil,builtE,gv,TD.isAgg,resV,↓reduceIte,Nat.reduceEqDiff,reduceCtorEq,Nat.reduceAdd,Nat.reduceMul,Nat.reduceLeDiff,za0,za1,Int.reduceEq,Int.reduceLT,Int.reduceLE,Nat.reduceLT,tiA, k0, hone, ne2, g0, List.mem_cons, List.not_mem_nil, or_false, forall_eq_or_imp, forall_eq, Array.size_empty]
    refine (games_c n v k l x ll 178 [.pointer (some ⟨H.next + 1, 0, none⟩), .pointer (some ⟨H.next + 2, 0, none⟩), .pointer (some ⟨H.next + 3, 0, none⟩), .pointer (some ⟨H.next + 4, 0, none⟩)]
      (fun es H1 => Up H.next H H1 ∧ H.next + 5 ≤ H1.next ∧ H1.row (H.next + 1) = some ⟨2, true, [.int .i64 a]⟩ ∧ H1.row (H.next + 2) = some ⟨2, true, [.int .i64 b]⟩ ∧ H1.row (H.next + 3) = some ⟨2, true, [.int .i64 (btw a b es).1]⟩ ∧ H1.row (H.next + 4) = some ⟨2, true, [.int .i64 (btw a b es).2]⟩)
      H Hg hb hres ⟨up2, by omega, k1, k2, g3, g4⟩ hl hv hx (fun es H' hS i r hr => by rw [hS.1.row i (hs _ _ hr), hr]) ?_ ?_).mono ?_
    · rintro es H1 H2 ⟨u1, m1, k1, k2, k3, k4⟩ hn2 hr2
      exact ⟨⟨by have := u1.next; omega, fun i hi => by rw [hr2 i (by omega), u1.row i hi]⟩, by omega, by rw [hr2 _ (by omega), k1], by rw [hr2 _ (by omega), k2], by rw [hr2 _ (by omega), k3], by rw [hr2 _ (by omega), k4]⟩
    · rintro es rd p q o H1 ⟨u1, m1, k1, k2, k3, k4⟩ hn1 hrd hp hq ho
      refine (ptsBetween2_c rd p q o a b _ _ _ _ _ _ H1 k1 k2 k3 k4).mono ?_
      rintro _ H2 rfl
      rw [zeP]
      unfold btwStep
      dsimp only
      by_cases c1 : p = a ∧ q = b
      · rw [if_pos c1, if_pos c1]
        exact ⟨⟨u1.set (by omega) _, m1, by rw [AH.setCells_row, if_neg (by omega), k1], by rw [AH.setCells_row, if_neg (by omega), k2], by rw [AH.setCells_row, if_pos rfl, k3]; rfl, by rw [AH.setCells_row, if_neg (by omega), k4]⟩, Nat.le_refl _, fun i hi _ => by rw [AH.setCells_row, if_neg (by omega)]⟩
      · rw [if_neg c1, if_neg c1]
        by_cases c2 : p = b ∧ q = a
        · rw [if_pos c2, if_pos c2]
          exact ⟨⟨u1.set (by omega) _, m1, by rw [AH.setCells_row, if_neg (by omega), k1], by rw [AH.setCells_row, if_neg (by omega), k2], by rw [AH.setCells_row, if_neg (by omega), k3], by rw [AH.setCells_row, if_pos rfl, k4]; rfl⟩, Nat.le_refl _, fun i hi _ => by rw [AH.setCells_row, if_neg (by omega)]⟩
        · rw [if_neg c2, if_neg c2]
          exact ⟨⟨u1, m1, k1, k2, k3, k4⟩, Nat.le_refl _, fun i hi _ => rfl⟩
    · rintro _ H2 ⟨⟨u1, m1, k1, k2, k3, k4⟩, hn2⟩
      refine Holds.mp ?_
      try simp (disch := first | omega | (simp only [L3] <;> omega)) only [Sall,evalOp,init,binA_s,binE,binI,unE,convE,okNil,builtE,gv,TD.isAgg,resV,↓reduceIte,Nat.reduceEqDiff,reduceCtorEq,Nat.reduceAdd,Nat.reduceMul,Nat.reduceLeDiff,za0,za1,Int.reduceEq,Int.reduceLT,Int.reduceLE,Nat.reduceLT,tiA, true_and]
      refine zaR (by kernel_rfl) (by kernel_rfl) ?_
      try simp (disch := first | omega | (simp only [L3] <;> omega)) only [Sall,evalOp,init,binA_s,binE,binI,unE,convE,okNil,builtE,gv,TD.isAgg,resV,↓reduceIte,Nat.reduceEqDiff,reduceCtorEq,Nat.reduceAdd,Nat.reduceMul,Nat.reduceLeDiff,za0,za1,Int.reduceEq,Int.reduceLT,Int.reduceLE,Nat.reduceLT,tiA, k3, k4]
      exact u1
  · have ec := zcH hok
    unfold btwR
    rw [if_neg hok]
    try simp (disch := first | omega | (simp only [L3] <;> omega)) only [Sall,evalOp,init,binA_s,binE,binI,unE,convE,okNil,builtE,gv,TD.isAgg,resV,↓reduceIte,Nat.reduceEqDiff,reduceCtorEq,Nat.reduceAdd,Nat.reduceMul,Nat.reduceLeDiff,za0,za1,Int.reduceEq,Int.reduceLT,Int.reduceLE,Nat.reduceLT,tiA, ec]
    exact up
theorem codeS_le {q : Int} {k : Nat} {l : List Int} {b b' : Bool} (h : ¬ (schedB q k l = true ∧ b = true)) (hb : b' = true → b = true) : codeS q k l b = codeS q k l b' := by
  unfold codeS
  by_cases h1 : schedB q k l = true
  · rw [if_pos h1, if_pos h1, if_neg (fun h2 => h ⟨h1, h2⟩), if_neg (fun h2 => h ⟨h1, hb h2⟩)]
  · rw [if_neg h1, if_neg h1]
theorem specPointsBetween_c (q : Int) (v : Value) (k : Nat) (l : List Int) (x : Value) (ll : List (List Int)) (a b : Int) (H : AH) (hv : Rd 14 H v k l) (hk : k ≤ 4294967296) (hx : Rd2 1 H x ll) (hl : ll.length ≤ 4294967296) (hl2 : ∀ y ∈ ll, y.length ≤ 4294967296)
    (_ : -9223372036854775808 ≤ a ∧ a ≤ 9223372036854775807) (_ : -9223372036854775808 ≤ b ∧ b ≤ 9223372036854775807) :
    ACalls Tryz.prog 55 [.agg #[.int .i64 q, v], x, .int .i64 a, .int .i64 b] H (is (.tuple #[.int .i64 (btwR q k l ll a b).1, .int .i64 (btwR q k l ll a b).2, .int .i64 (codeS q k l (resB q.toNat k l ll && twoB q a b))]) H) := by
  refine ACalls.wf (by kernel_rfl) fun hs => zaZ (by simp [flat, Abs.scal]) (za3 [.tmp 8, .tmp 9, .tmp 10] Tryz.func55 (by kernel_rfl) rfl rfl (Nat.le_of_ble_eq_true rfl) (by kernel_rfl) ?_)
  have hone := hv.one
  have zz : zeros 2 [.int .i64 0] = [.int .i64 0, .int .i64 0] := rfl
  try simp (disch := first | omega | (simp only [L3] <;> omega)) only [Sall,evalOp,init,binA_s,binE,binI,unE,convE,okNil,builtE,gv,TD.isAgg,resV,↓reduceIte,Nat.reduceEqDiff,reduceCtorEq,Nat.reduceAdd,Nat.reduceMul,Nat.reduceLeDiff,za0,za1,Int.reduceEq,Int.reduceLT,Int.reduceLE,Nat.reduceLT,tiA, hone, zz]
  obtain ⟨H1, eg⟩ : ∃ H1, H1 = (H.push ⟨26, true, [.int .i64 q, v]⟩).push ⟨2, true, [.int .i64 a, .int .i64 b]⟩ := ⟨_, rfl⟩
  have up : Up H.next H H1 := by rw [eg]; exact ((Up.refl _ H).push (by omega) _).push (by simp only [AH.push_next]; omega) _
  have g0 : H1.row H.next = some ⟨26, true, [.int .i64 q, v]⟩ := by rw [eg]; (simp [AH.setCells_row, AH.push_row, AH.push_next] <;> (try omega) <;> (repeat rw [if_neg (by omega)]))
  have g1 : H1.row (H.next + 1) = some ⟨2, true, ints [a, b]⟩ := by rw [eg, AH.push_row, if_pos (by rw [AH.push_next])]; rfl
  have n1 : H1.next = H.next + 2 := by rw [eg]; rfl
  rw [← eg]
  clear eg
  have hv1 := hv.same (up.le hs).row
  have hx1 := hx.same (up.le hs).row
  have ht : Rd 1 H1 (.slice (some ⟨H.next + 1, 0, some 1⟩) 2 2) 2 [a, b] := Fr.rd (ty := 2) (lo := 0) (hi := H.next + 2) ⟨rfl, .inr ⟨H.next + 1, by omega, by omega, rfl, g1⟩⟩
  refine (zeD q v k l x ll _ 2 [a, b] H1 hv1 hk hx1 hl hl2 ht (by omega)).to ?_
  have eall : ((List.range 2).all fun i => decide (0 ≤ [a, b].getD i 0 ∧ [a, b].getD i 0 ≤ q - 1)) = (decide (0 ≤ a ∧ a ≤ q - 1) && decide (0 ≤ b ∧ b ≤ q - 1)) := by
    show (decide (0 ≤ a ∧ a ≤ q - 1) && (decide (0 ≤ b ∧ b ≤ q - 1) && true)) = _
    rw [Bool.and_true]
  rw [eall]
  by_cases hok0 : schedB q k l = true ∧ (resB q.toNat k l ll && (decide (0 ≤ a ∧ a ≤ q - 1) && decide (0 ≤ b ∧ b ≤ q - 1))) = true
  · rw [zbF hok0.1 hok0.2]
    obtain ⟨hb, hok2⟩ := hok0
    rw [Bool.and_eq_true] at hok2
    obtain ⟨hres, htwo⟩ := hok2
    obtain ⟨h2, hk40, hrounds⟩ := zaC hb
    obtain ⟨n, rfl⟩ : ∃ n : Nat, q = n := ⟨q.toNat, by omega⟩
    rw [Int.toNat_natCast] at hres ⊢
    obtain ⟨hlk, hrs⟩ := zcY hres
    by_cases hab : a = b
    · have e0 : (a == b) = true := by simpa using hab
      have t0 : twoB n a b = false := by unfold twoB; rw [htwo, hab]; simp
      have e1 : ((2 : Int) != 0) = true := rfl
      try simp (disch := first | omega | (simp only [L3] <;> omega)) only [Sall,evalOp,init,binA_s,binE,binI,unE,convE,okNil,builtE,gv,TD.isAgg,resV,↓reduceIte,Nat.reduceEqDiff,reduceCtorEq,Nat.reduceAdd,Nat.reduceMul,Nat.reduceLeDiff,za0,za1,Int.reduceEq,Int.reduceLT,Int.reduceLE,Nat.reduceLT,tiA, beq_self_eq_true, e0, e1]
      unfold btwR
      rw [t0, Bool.and_false, if_neg (by simp)]
      unfold codeS
      rw [if_pos hb]
      exact ⟨by simp, up⟩
    · have e0 : (a == b) = false := by simpa using hab
      have t0 : twoB n a b = true := by unfold twoB; rw [htwo]; simpa using hab
      have e1 : ((0 : Int) != 0) = false := rfl
      unfold btwR
      rw [t0, Bool.and_true, Int.toNat_natCast, if_pos ⟨hb, hres⟩, hres, zbF hb (show (true && true) = true from rfl)]
      try simp (disch := first | omega | (simp only [L3] <;> omega)) only [Sall,evalOp,init,binA_s,binE,binI,unE,convE,okNil,builtE,gv,TD.isAgg,resV,↓reduceIte,Nat.reduceEqDiff,reduceCtorEq,Nat.reduceAdd,Nat.reduceMul,Nat.reduceLeDiff,za0,za1,Int.reduceEq,Int.reduceLT,Int.reduceLE,Nat.reduceLT,tiA, beq_self_eq_true, e0, e1]
      refine za7 (fun m t H' => ∃ c : Nat, m = ll.length - c ∧ c ≤ ll.length ∧ t 14 = .int .i64 c ∧ t 12 = .int .i64 (btw a b (meets n l ll c)).1 ∧ t 13 = .int .i64 (btw a b (meets n l ll c)).2 ∧ t 2 = .int .i64 a ∧ t 3 = .int .i64 b ∧ t 1 = x ∧ t 4 = .pointer (some ⟨H.next, 0, none⟩) ∧ Up H.next H H' ∧ H.next < H'.next ∧ H'.row H.next = some ⟨26, true, [.int .i64 n, v]⟩) ll.length ?_ ?_
      · refine ⟨0, by omega, by omega, ?_⟩
        try simp (disch := first | omega | (simp only [L3] <;> omega)) only [Sall,evalOp,init,binA_s,binE,binI,unE,convE,okNil,builtE,gv,TD.isAgg,resV,↓reduceIte,Nat.reduceEqDiff,reduceCtorEq,Nat.reduceAdd,Nat.reduceMul,Nat.reduceLeDiff,za0,za1,Int.reduceEq,Int.reduceLT,Int.reduceLE,Nat.reduceLT,tiA, Int.natCast_zero, zbW, btw_nil]
        exact ⟨up, by omega, g0⟩
      · rintro m t H' ⟨c, hm, h14, ht14, h12, h13, h2, h3, h1, h4, hup, hnx, hr1⟩
        try simp (disch := first | omega | (simp only [L3] <;> omega)) only [Sall,evalOp,init,binA_s,binE,binI,unE,convE,okNil,builtE,gv,TD.isAgg,resV,↓reduceIte,Nat.reduceEqDiff,reduceCtorEq,Nat.reduceAdd,Nat.reduceMul,Nat.reduceLeDiff,za0,za1,Int.reduceEq,Int.reduceLT,Int.reduceLE,Nat.reduceLT,tiA, ht14, h1, builtE, hx.len]
        refine za6 (fun h => ?_) (fun h => ?_)
        · obtain ⟨i, o, u, cc, r, y, my, ex, hrB, hy, hsx, hok⟩ := hx.get (j := c) (by omega)
          obtain ⟨i', o', u', c', r', ev, hrB', hc', hs', hg'⟩ := hv.get (by omega)
          have hr' : H'.row i' = some r' := by rw [hup.row _ (hs _ _ hrB'), hrB']
          have hiB := hs _ _ hrB
          obtain ⟨hlen, hvals⟩ := hrs c (by omega)
          have hrl : (rnd l c).length = 14 := zbA l c k hv.1 (by omega)
          have hlh := hup.next
          refine zaR (by kernel_rfl) (by kernel_rfl) ?_
          try simp (disch := first | omega | (simp only [L3] <;> omega)) only [Sall,evalOp,init,binA_s,binE,binI,unE,convE,okNil,builtE,gv,TD.isAgg,resV,↓reduceIte,Nat.reduceEqDiff,reduceCtorEq,Nat.reduceAdd,Nat.reduceMul,Nat.reduceLeDiff,za0,za1,Int.reduceEq,Int.reduceLT,Int.reduceLE,Nat.reduceLT,tiA, ht14, h4, hr1, ev, hr', hg']
          (repeat refine And.intro (by omega) ?_)
          refine ACalls.wf (by kernel_rfl) fun hs1 => (zcP n (rnd l c) hrl (by omega) H').mono ?_
          rintro p H3 ⟨up3, hp⟩
          refine ⟨.inr (.inr (up3.le hs1)), ?_⟩
          have n3 := up3.next
          have hr3 : H3.row H.next = some ⟨26, true, [.int .i64 n, v]⟩ := by rw [up3.row _ (by omega), hr1]
          have hplen := zbE (rnd l c) n
          have hround := hrounds c (by omega)
          have hup3 : Up H.next H H3 := hup.trans up3 hlh
          have hpl := hp.rd.len
          refine Holds.mp ?_
          try simp (disch := first | omega | (simp only [L3] <;> omega)) only [Sall,evalOp,init,binA_s,binE,binI,unE,convE,okNil,builtE,gv,TD.isAgg,resV,↓reduceIte,Nat.reduceEqDiff,reduceCtorEq,Nat.reduceAdd,Nat.reduceMul,Nat.reduceLeDiff,za0,za1,Int.reduceEq,Int.reduceLT,Int.reduceLE,Nat.reduceLT,tiA, ht14, h12, h13, h2, h3, h1, h4]
          refine za7 (fun z t H4 => ∃ d : Nat, z = (pairsL (rnd l c) n).length - d ∧ d ≤ (pairsL (rnd l c) n).length ∧ t 16 = .int .i64 d ∧ t 15 = p ∧ t 14 = .int .i64 c ∧ t 12 = .int .i64 (btw a b (meets n l ll c ++ zaL n c (rnd l c) (ll.getD c []) d)).1 ∧ t 13 = .int .i64 (btw a b (meets n l ll c ++ zaL n c (rnd l c) (ll.getD c []) d)).2 ∧ t 2 = .int .i64 a ∧ t 3 = .int .i64 b ∧ t 1 = x ∧ t 4 = .pointer (some ⟨H.next, 0, none⟩) ∧ H4 = H3) (pairsL (rnd l c) n).length ?_ ?_
          · refine ⟨0, by omega, by omega, ?_⟩
            try simp (disch := first | omega | (simp only [L3] <;> omega)) only [Sall,evalOp,init,binA_s,binE,binI,unE,convE,okNil,builtE,gv,TD.isAgg,resV,↓reduceIte,Nat.reduceEqDiff,reduceCtorEq,Nat.reduceAdd,Nat.reduceMul,Nat.reduceLeDiff,za0,za1,Int.reduceEq,Int.reduceLT,Int.reduceLE,Nat.reduceLT,tiA, Int.natCast_zero, zc5, List.append_nil, ht14, h12, h13, h2, h3, h1, h4]
          · rintro z t H4 ⟨d, hz, hdp, h16, h15, ht14, h12, h13, h2, h3, h1, h4, rfl⟩
            try simp (disch := first | omega | (simp only [L3] <;> omega)) only [Sall,evalOp,init,binA_s,binE,binI,unE,convE,okNil,builtE,gv,TD.isAgg,resV,↓reduceIte,Nat.reduceEqDiff,reduceCtorEq,Nat.reduceAdd,Nat.reduceMul,Nat.reduceLeDiff,za0,za1,Int.reduceEq,Int.reduceLT,Int.reduceLE,Nat.reduceLT,tiA, h16, h15, builtE, hpl]
            refine za6 (fun hh => ?_) (fun hh => ?_)
            · obtain ⟨pi, pvs, px, pm, pb, pc, rfl, q1, q2, q3, q4, q5, q6, q7, q8⟩ := hp.getF (j := d) (by omega)
              have hpm := q8.lenK1
              obtain ⟨aa, ha1, ha2, ha3⟩ := zbD (rnd l c) n d (by omega)
              obtain ⟨_, ha4, ha5, _⟩ := zb3 hround (a := aa) (by omega)
              have hmy := hsx.lenK1
              obtain ⟨i5, o5, u5, c5, r5, rfl, gB, g2, g3, _⟩ := hsx.get (by omega)
              have hi5 := hs _ _ gB
              have g1 : H4.row i5 = some r5 := by rw [hup3.row _ hi5, gB]
              have gr : H4.row i = some r := by rw [hup3.row _ hiB, hrB]
              have g4 := g3 d (by omega)
              rw [ha3] at q8 hpm
              simp only [List.length_cons, List.length_nil] at hpm
              obtain rfl : pm = 2 := hpm
              obtain ⟨i6, w1, w2, rfl, w3⟩ := q8.get (by omega)
              have evs1 : btw a b (meets n l ll c ++ zaL n c (rnd l c) (ll.getD c []) (d + 1)) = btw a b (((meets n l ll c ++ zaL n c (rnd l c) (ll.getD c []) d) ++ [(c, (aa : Int), (rnd l c).getD aa 0, wonI ((ll.getD c []).getD d 0))]) ++ [(c, (rnd l c).getD aa 0, (aa : Int), 2 - wonI ((ll.getD c []).getD d 0))]) := by
                rw [zbL, ha3]; simp [evPair]
              rw [btw_pair hab] at evs1
              have i0 : (ints [(aa : Int), (rnd l c).getD aa 0])[Int.toNat 0]? = some (.int .i64 aa) := rfl
              have i1 : (ints [(aa : Int), (rnd l c).getD aa 0])[Int.toNat 1]? = some (.int .i64 ((rnd l c).getD aa 0)) := rfl
              revert h12 h13 evs1
              generalize btw a b (meets n l ll c ++ zaL n c (rnd l c) (ll.getD c []) d) = A
              intro h12 h13 evs1
              try simp (disch := first | omega | (simp only [L3] <;> omega)) only [Sall,evalOp,init,binA_s,binE,binI,unE,convE,okNil,builtE,gv,TD.isAgg,resV,↓reduceIte,Nat.reduceEqDiff,reduceCtorEq,Nat.reduceAdd,Nat.reduceMul,Nat.reduceLeDiff,za0,za1,Int.reduceEq,Int.reduceLT,Int.reduceLE,Nat.reduceLT,tiA, h16, ht14, h1, ex, gr, hy, hok, g1, g4]
              (repeat refine And.intro (by omega) ?_)
              refine (zhA _ _).to ?_
              have B : ∀ x y : Int, ((x == y) = true ∧ x = y) ∨ ((x == y) = false ∧ ¬ x = y) := fun x y => by
                by_cases h : x = y
                · exact .inl ⟨by simpa using h, h⟩
                · exact .inr ⟨by simpa using h, h⟩
              refine Holds.mp ?_
              rcases B (aa : Int) a with ⟨e1, f1⟩ | ⟨e1, f1⟩ <;> rcases B ((rnd l c).getD aa 0) b with ⟨e2, f2⟩ | ⟨e2, f2⟩ <;> rcases B (aa : Int) b with ⟨e3, f3⟩ | ⟨e3, f3⟩ <;> rcases B ((rnd l c).getD aa 0) a with ⟨e4, f4⟩ | ⟨e4, f4⟩ <;> rw [zcW]
              all_goals
                try simp (disch := first | omega | (simp only [L3] <;> omega)) only [Sall,evalOp,init,binA_s,binE,binI,unE,convE,okNil,builtE,gv,TD.isAgg,resV,↓reduceIte,Nat.reduceEqDiff,reduceCtorEq,Nat.reduceAdd,Nat.reduceMul,Nat.reduceLeDiff,za0,za1,Int.reduceEq,Int.reduceLT,Int.reduceLE,Nat.reduceLT,tiA, h16, h15, ht14, h12, h13, h2, h3, h1, q3, q5, w3, i0, i1, e1, e2, e3, e4]
                (repeat refine And.intro (by omega) ?_)
                refine ⟨(pairsL (rnd l c) n).length - (d + 1), by omega, d + 1, rfl, by omega, w64 (by omega), ?_⟩
                rw [evs1]
                first | (rw [if_pos ⟨f1, f2⟩]; and_intros <;> first | rfl | assumption) | (rw [if_neg (fun h => f1 h.1), if_pos ⟨f3, f4⟩]; and_intros <;> first | rfl | assumption) | (rw [if_neg (fun h => f2 h.2), if_pos ⟨f3, f4⟩]; and_intros <;> first | rfl | assumption) | (rw [if_neg (fun h => f1 h.1), if_neg (fun h => f3 h.1)]; and_intros <;> first | rfl | assumption) | (rw [if_neg (fun h => f1 h.1), if_neg (fun h => f4 h.2)]; and_intros <;> first | rfl | assumption) | (rw [if_neg (fun h => f2 h.2), if_neg (fun h => f3 h.1)]; and_intros <;> first | rfl | assumption) | (rw [if_neg (fun h => f2 h.2), if_neg (fun h => f4 h.2)]; and_intros <;> first | rfl | assumption)
            · try simp (disch := first | omega | (simp only [L3] <;> omega)) only [Sall,evalOp,init,binA_s,binE,binI,unE,convE,okNil,builtE,gv,TD.isAgg,resV,↓reduceIte,Nat.reduceEqDiff,reduceCtorEq,Nat.reduceAdd,Nat.reduceMul,Nat.reduceLeDiff,za0,za1,Int.reduceEq,Int.reduceLT,Int.reduceLE,Nat.reduceLT,tiA, ht14, h12, h13, h2, h3, h1, h4, w64]
              have hbb : d = (pairsL (rnd l c) n).length := by omega
              refine ⟨ll.length - (c + 1), by omega, c + 1, rfl, by omega, by omega, ?_⟩
              rw [zbH, ← hbb]
              exact ⟨rfl, rfl, hup3, by omega, hr3⟩
        · have hc : c = ll.length := by omega
          subst hc
          try simp (disch := first | omega | (simp only [L3] <;> omega)) only [Sall,evalOp,init,binA_s,binE,binI,unE,convE,okNil,builtE,gv,TD.isAgg,resV,↓reduceIte,Nat.reduceEqDiff,reduceCtorEq,Nat.reduceAdd,Nat.reduceMul,Nat.reduceLeDiff,za0,za1,Int.reduceEq,Int.reduceLT,Int.reduceLE,Nat.reduceLT,tiA, h12, h13]
          exact hup
  · have ec := zcH hok0
    have e1 : (codeS q k l (resB q.toNat k l ll && (decide (0 ≤ a ∧ a ≤ q - 1) && decide (0 ≤ b ∧ b ≤ q - 1))) == 0) = false := by
      cases h : (codeS q k l (resB q.toNat k l ll && (decide (0 ≤ a ∧ a ≤ q - 1) && decide (0 ≤ b ∧ b ≤ q - 1))) == 0) with
      | false => rfl
      | true => unfold bne at ec; rw [h] at ec; cases ec
    have hle : (resB q.toNat k l ll && twoB q a b) = true → (resB q.toNat k l ll && (decide (0 ≤ a ∧ a ≤ q - 1) && decide (0 ≤ b ∧ b ≤ q - 1))) = true := by
      unfold twoB
      intro h
      rw [Bool.and_eq_true, Bool.and_eq_true] at h
      rw [h.1, h.2.1]; rfl
    try simp (disch := first | omega | (simp only [L3] <;> omega)) only [Sall,evalOp,init,binA_s,binE,binI,unE,convE,okNil,builtE,gv,TD.isAgg,resV,↓reduceIte,Nat.reduceEqDiff,reduceCtorEq,Nat.reduceAdd,Nat.reduceMul,Nat.reduceLeDiff,za0,za1,Int.reduceEq,Int.reduceLT,Int.reduceLE,Nat.reduceLT,tiA, ec, e1]
    unfold btwR
    rw [if_neg (fun h => hok0 ⟨h.1, hle h.2⟩), ← codeS_le hok0 hle]
    exact ⟨rfl, up⟩
end Go.Proofs.YtpienljnoaendaaGreat.A
end

section
namespace Go.Abs
def ownAt (r x : List Int) (a : Nat) : Int := if (a : Int) < r.getD a 0 then wonI (x.getD (pairsL r a).length 0) else 2 - wonI (x.getD (pairsL r (r.getD a 0).toNat).length 0)
def evUpto (i : Nat) (r x : List Int) (m : Nat) : List Ev := (List.range (pairsL r m).length).flatMap fun j => evPair i ((pairsL r m).getD j []) (wonI (x.getD j 0))
theorem evUpto_all (n i : Nat) (r x : List Int) : zaL n i r x (pairsL r n).length = evUpto i r x n := rfl
theorem evUpto_yes (i : Nat) (r x : List Int) (m : Nat) (h : (m : Int) < r.getD m 0) : evUpto i r x (m + 1) = evUpto i r x m ++ [(i, (m : Int), r.getD m 0, wonI (x.getD (pairsL r m).length 0)), (i, r.getD m 0, (m : Int), 2 - wonI (x.getD (pairsL r m).length 0))] := by
  unfold evUpto
  rw [zf4 r m h, List.length_append, List.length_singleton, List.range_succ, List.flatMap_append]
  congr 1
  · rw [List.flatMap_def, List.flatMap_def]
    congr 1
    apply List.map_congr_left
    intro j hj
    rw [List.mem_range] at hj
    rw [List.getD_eq_getElem?_getD, List.getElem?_append_left hj, ← List.getD_eq_getElem?_getD]
  · simp only [List.flatMap_cons, List.flatMap_nil, List.append_nil]
    rw [List.getD_eq_getElem?_getD, List.getElem?_append_right (Nat.le_refl _), Nat.sub_self]
    rfl
theorem evUpto_no (i : Nat) (r x : List Int) (m : Nat) (h : ¬ (m : Int) < r.getD m 0) : evUpto i r x (m + 1) = evUpto i r x m := by
  unfold evUpto; rw [zgE r m h]
theorem zeA {n : Nat} {r : List Int} (hr : ∀ a : Nat, a < n → 0 ≤ r.getD a 0 ∧ r.getD a 0 < n ∧ r.getD (r.getD a 0).toNat 0 = a) (i : Nat) (x : List Int) {a : Nat} (ha : a < n) : ∀ m, m ≤ n →
    (evUpto i r x m).filter (fun e => decide (e.2.1 = (a : Int))) = if (a < m ∧ (a : Int) < r.getD a 0) ∨ (r.getD a 0 < m ∧ r.getD a 0 < a) then [(i, (a : Int), r.getD a 0, ownAt r x a)] else []
  | 0, _ => by
    obtain ⟨h1, _, _⟩ := hr a ha
    rw [if_neg (by omega)]; rfl
  | m + 1, hm => by
    have ih := zeA hr i x ha m (by omega)
    obtain ⟨a1, a2, a3⟩ := hr a ha
    obtain ⟨m1, m2, m3⟩ := hr m (by omega)
    by_cases h : (m : Int) < r.getD m 0
    · rw [evUpto_yes i r x m h, List.filter_append, ih]
      by_cases c1 : a = m
      · subst c1
        have c2 : ¬ r.getD a 0 = (a : Int) := by omega
        rw [if_neg (by omega), if_pos (by omega)]
        have : ownAt r x a = wonI (x.getD (pairsL r a).length 0) := by unfold ownAt; rw [if_pos h]
        simp only [List.filter_cons, List.filter_nil, decide_true, c2, decide_false, if_true, List.nil_append, this]
        simp
      · by_cases c2 : r.getD m 0 = (a : Int)
        · have e1 : r.getD a 0 = (m : Int) := by rw [c2] at m3; simpa using m3
          have c3 : ¬ (m : Int) = (a : Int) := by omega
          rw [if_neg (by omega), if_pos (by omega)]
          have : ownAt r x a = 2 - wonI (x.getD (pairsL r m).length 0) := by unfold ownAt; rw [if_neg (by omega), e1]; simp
          simp only [List.filter_cons, List.filter_nil, c2, decide_true, c3, decide_false, if_true, List.nil_append, this, e1]
          simp
        · have c3 : ¬ (m : Int) = (a : Int) := by omega
          have e1 : ¬ r.getD a 0 = (m : Int) := fun e => c2 (by rw [e] at a3; simpa using a3)
          simp only [List.filter_cons, List.filter_nil, c2, c3, decide_false, Bool.false_eq_true, if_false, List.append_nil]
          congr 1
          simp only [eq_iff_iff]
          omega
    · rw [evUpto_no i r x m h, ih]
      congr 1
      simp only [eq_iff_iff]
      have e1 : r.getD a 0 = (m : Int) → (a : Int) = r.getD m 0 := fun e => by rw [e] at a3; simpa using a3.symm
      have e2 : a = m → r.getD a 0 = r.getD m 0 := fun e => by rw [e]
      constructor
      · rintro (⟨b1, b2⟩ | ⟨b1, b2⟩)
        · exact .inl ⟨by omega, b2⟩
        · exact .inr ⟨by omega, b2⟩
      · rintro (⟨b1, b2⟩ | ⟨b1, b2⟩)
        · refine .inl ⟨?_, b2⟩
          by_cases c : a = m
          · have := e2 c; omega
          · omega
        · refine .inr ⟨?_, b2⟩
          by_cases c : r.getD a 0 = (m : Int)
          · have := e1 c; omega
          · omega
theorem zdM {n : Nat} {r : List Int} (hr : ∀ a : Nat, a < n → 0 ≤ r.getD a 0 ∧ r.getD a 0 < n ∧ r.getD (r.getD a 0).toNat 0 = a) (i : Nat) (x : List Int) {a : Nat} (ha : a < n) :
    (zaL n i r x (pairsL r n).length).filter (fun e => decide (e.2.1 = (a : Int))) = if r.getD a 0 = a then [] else [(i, (a : Int), r.getD a 0, ownAt r x a)] := by
  rw [evUpto_all, zeA hr i x ha n (Nat.le_refl _)]
  obtain ⟨a1, a2, a3⟩ := hr a ha
  by_cases c : r.getD a 0 = (a : Int)
  · rw [if_pos c, if_neg (by omega)]
  · rw [if_neg c, if_pos (by omega)]
theorem zfG (f : Int → Int → Int) (a : Nat) : ∀ (es : List Ev) (A : List Int), a < A.length → (∀ e ∈ es, 0 ≤ e.2.1) →
    (es.foldl (fun l e => addAt l e.2.1 (f e.2.2.1 e.2.2.2)) A).getD a 0 = (es.filter (fun e => decide (e.2.1 = (a : Int)))).foldl (fun z e => IntKind.i64.wrap (z + f e.2.2.1 e.2.2.2)) (A.getD a 0)
  | [], A, _, _ => rfl
  | e :: es, A, hA, he => by
    rw [List.foldl_cons, zfG f a es _ (by rw [zcT]; exact hA) (fun e h => he e (List.mem_cons_of_mem _ h))]
    have h0 := he e (List.mem_cons_self)
    by_cases c : e.2.1 = (a : Int)
    · rw [List.filter_cons, if_pos (by simpa using c), List.foldl_cons]
      congr 1
      unfold addAt
      rw [c, Int.toNat_natCast, List.getD_eq_getElem?_getD, List.getElem?_set_self hA]
      rfl
    · rw [List.filter_cons, if_neg (by simpa using c)]
      congr 1
      unfold addAt
      rw [List.getD_eq_getElem?_getD, List.getElem?_set_ne (by omega), ← List.getD_eq_getElem?_getD]
theorem evRound_nonneg {n : Nat} {r : List Int} (hr : ∀ a : Nat, a < n → 0 ≤ r.getD a 0 ∧ r.getD a 0 < n ∧ r.getD (r.getD a 0).toNat 0 = a) (i : Nat) (x : List Int) : ∀ e ∈ zaL n i r x (pairsL r n).length, 0 ≤ e.2.1 := by
  intro e he
  unfold zaL at he
  rw [List.mem_flatMap] at he
  obtain ⟨j, hj, he⟩ := he
  obtain ⟨a, ha, hlt, hp⟩ := zbD r n j (by simpa using hj)
  rw [hp] at he
  unfold evPair at he
  obtain ⟨h1, _, _⟩ := hr a ha
  rcases List.mem_cons.1 he with rfl | he
  · show (0 : Int) ≤ (a : Int); omega
  · rw [List.mem_singleton] at he
    subst he
    exact h1
def ownR (l : List Int) (ll : List (List Int)) (a i : Nat) : Int := if (rnd l i).getD a 0 = a then 0 else ownAt (rnd l i) (ll.getD i []) a
section
variable {n k : Nat} {l : List Int} {ll : List (List Int)}
theorem rnd_inv (hb : schedB n k l = true) {i : Nat} (hi : i < k) : ∀ a : Nat, a < n → 0 ≤ (rnd l i).getD a 0 ∧ (rnd l i).getD a 0 < n ∧ (rnd l i).getD ((rnd l i).getD a 0).toNat 0 = a := fun a ha => (zb3 ((zaC hb).2.2 i hi) (by omega)).2
theorem pts_succ (hb : schedB n k l = true) {m a : Nat} (hm : m < k) (ha : a < n) : (sumsF n (fun _ o => o) (meets n l ll (m + 1))).getD a 0 = IntKind.i64.wrap (ownR l ll a m + (sumsF n (fun _ o => o) (meets n l ll m)).getD a 0) := by
  have hr := rnd_inv hb hm
  have e : sumsF n (fun _ o => o) (meets n l ll (m + 1)) = (zaL n m (rnd l m) (ll.getD m []) (pairsL (rnd l m) n).length).foldl (fun l e => addAt l e.2.1 e.2.2.2) (sumsF n (fun _ o => o) (meets n l ll m)) := by
    rw [zbH]; unfold sumsF; rw [List.foldl_append]
  rw [e, zfG (fun _ o => o) a _ _ (by rw [zaS]; exact ha) (evRound_nonneg hr m _), zdM hr m _ ha]
  unfold ownR
  by_cases c : (rnd l m).getD a 0 = (a : Int)
  · rw [if_pos c, if_pos c, Int.zero_add, List.foldl_nil, w64 (zfR _ _ _ _)]
  · rw [if_neg c, if_neg c, List.foldl_cons, List.foldl_nil, Int.add_comm]
theorem byRd_succ (hb : schedB n k l = true) {m a R : Nat} (hm : m < k) (ha : a < n) : byRd a R (meets n l ll (m + 1)) = if (rnd l m).getD a 0 = a then byRd a R (meets n l ll m) else (byRd a R (meets n l ll m)).set (m + 1) (ownAt (rnd l m) (ll.getD m []) a) := by
  have hr := rnd_inv hb hm
  have e : byRd a R (meets n l ll (m + 1)) = (zaL n m (rnd l m) (ll.getD m []) (pairsL (rnd l m) n).length).foldl (fun l e => if e.2.1 = (a : Int) then l.set (e.1 + 1) e.2.2.2 else l) (byRd a R (meets n l ll m)) := by
    rw [zbH]; unfold byRd; rw [List.foldl_append]
  have g : ∀ (es : List Ev) (A : List Int), es.foldl (fun l e => if e.2.1 = (a : Int) then l.set (e.1 + 1) e.2.2.2 else l) A = (es.filter (fun e => decide (e.2.1 = (a : Int)))).foldl (fun l e => l.set (e.1 + 1) e.2.2.2) A := by
    intro es
    induction es with
    | nil => intro A; rfl
    | cons e es ih =>
      intro A
      rw [List.foldl_cons, List.filter_cons]
      by_cases c : e.2.1 = (a : Int)
      · rw [if_pos c, if_pos (by simpa using c), List.foldl_cons, ih]
      · rw [if_neg c, if_neg (by simpa using c), ih]
  rw [e, g, zdM hr m _ ha]
  by_cases c : (rnd l m).getD a 0 = (a : Int)
  · rw [if_pos c, if_pos c]; rfl
  · rw [if_neg c, if_neg c]; rfl
theorem zhC (hb : schedB n k l = true) {a R : Nat} (ha : a < n) : ∀ m, m ≤ k → m ≤ R → ∀ j, j < R + 1 → (byRd a R (meets n l ll m)).getD j 0 = if 0 < j ∧ j ≤ m then ownR l ll a (j - 1) else 0
  | 0, _, _, j, hj => by
    rw [if_neg (by omega), zbW, byRd_nil]
    simp [List.getD_eq_getElem?_getD, List.getElem?_replicate, hj]
  | m + 1, hm, hR, j, hj => by
    have ih := zhC hb ha m (by omega) (by omega) j hj
    have hlen := zc2 (a : Int) R (meets n l ll m)
    rw [byRd_succ hb (by omega) ha]
    by_cases c : (rnd l m).getD a 0 = (a : Int)
    · rw [if_pos c, ih]
      by_cases c2 : j = m + 1
      · subst c2
        rw [if_neg (by omega), if_pos (by omega)]
        unfold ownR
        rw [Nat.add_sub_cancel, if_pos c]
      · by_cases c3 : 0 < j ∧ j ≤ m
        · rw [if_pos c3, if_pos (by omega)]
        · rw [if_neg c3, if_neg (by omega)]
    · rw [if_neg c]
      by_cases c2 : j = m + 1
      · subst c2
        rw [if_pos (by omega), List.getD_eq_getElem?_getD, List.getElem?_set_self (by omega)]
        unfold ownR
        rw [Nat.add_sub_cancel, if_neg c]
        rfl
      · rw [List.getD_eq_getElem?_getD, List.getElem?_set_ne (by omega), ← List.getD_eq_getElem?_getD, ih]
        by_cases c3 : 0 < j ∧ j ≤ m
        · rw [if_pos c3, if_pos (by omega)]
        · rw [if_neg c3, if_neg (by omega)]
theorem pref_get (hb : schedB n k l = true) {a R : Nat} (ha : a < n) (hR : R ≤ k) : ∀ i, i ≤ R → ∀ j, j < R + 1 → (pref i (byRd a R (meets n l ll R))).getD j 0 = if j ≤ i then (sumsF n (fun _ o => o) (meets n l ll j)).getD a 0 else (byRd a R (meets n l ll R)).getD j 0
  | 0, _, j, hj => by
    show (byRd a R (meets n l ll R)).getD j 0 = _
    by_cases c : j ≤ 0
    · obtain rfl : j = 0 := by omega
      rw [if_pos (Nat.le_refl _), zhC hb ha R hR (Nat.le_refl _) 0 hj, if_neg (by omega), zbW, zdW]
      simp [List.getD_eq_getElem?_getD, List.getElem?_replicate, ha]
    · rw [if_neg c]
  | i + 1, hi, j, hj => by
    have ih := pref_get hb ha hR i (by omega)
    have hlen : (pref i (byRd a R (meets n l ll R))).length = R + 1 := by rw [zcM, zc2]
    show ((pref i (byRd a R (meets n l ll R))).set (i + 1) _).getD j 0 = _
    by_cases c : j = i + 1
    · subst c
      rw [List.getD_eq_getElem?_getD, List.getElem?_set_self (by omega), if_pos (Nat.le_refl _), ih (i + 1) hj, if_neg (by omega), ih i (by omega), if_pos (Nat.le_refl _), zhC hb ha R hR (Nat.le_refl _) (i + 1) hj, if_pos (by omega), Nat.add_sub_cancel, pts_succ hb (by omega) ha]
      rfl
    · rw [List.getD_eq_getElem?_getD, List.getElem?_set_ne (by omega), ← List.getD_eq_getElem?_getD, ih j hj]
      by_cases c2 : j ≤ i
      · rw [if_pos c2, if_pos (by omega)]
      · rw [if_neg c2, if_neg (by omega)]
theorem pref_all (hb : schedB n k l = true) {a R : Nat} (ha : a < n) (hR : R ≤ k) : pref R (byRd a R (meets n l ll R)) = ptsBy n l ll a (R + 1) := by
  apply List.ext_getElem?
  intro j
  by_cases hj : j < R + 1
  · have h1 := pref_get (ll := ll) hb ha hR R (Nat.le_refl _) j hj
    rw [if_pos (by omega)] at h1
    have e1 : j < (pref R (byRd a R (meets n l ll R))).length := by rw [zcM, zc2]; exact hj
    rw [List.getD_eq_getElem?_getD, List.getElem?_eq_getElem e1] at h1
    rw [List.getElem?_eq_getElem e1]
    unfold ptsBy
    rw [List.getElem?_map, List.getElem?_range hj]
    simpa using h1
  · rw [List.getElem?_eq_none (by rw [zcM, zc2]; omega), List.getElem?_eq_none (by rw [zcD]; omega)]
end
end Go.Abs
end
