/- Draws: an evening. And what follows. -/
import Derived.Test.YtgkmdfjjlghecaaM3
section
set_option linter.unusedSimpArgs false
set_option linter.unusedVariables false
set_option maxRecDepth 100000
set_option maxHeartbeats 2000000
namespace Go.Proofs.Ytgkmdfjjlghecaa.A
open Go Go.Abs Go.RowKit

def EvL (ll : List (List Int)) : Prop := ll.length ≤ 64 ∧ ∀ r ∈ ll, r.length ≤ 64
theorem EvL.nil : EvL [] := ⟨by simp, by simp⟩
theorem EvL.app {ll mm : List (List Int)} (h : EvL ll) (k : EvL mm) (hl : ll.length + mm.length ≤ 64) : EvL (ll ++ mm) := ⟨by simp; omega, fun r hr => by
  rcases List.mem_append.1 hr with h1 | h1
  · exact h.2 r h1
  · exact k.2 r h1⟩

theorem specRenumberPlayers_c (n : Nat) (u : Value) (R : List (List Int)) (pv : Value) (y : List Int) (H : AH) (hn : 1 ≤ n ∧ n ≤ 16) (hu : Rd2 1 H u R) (hR : EvL R) (hp : Rd 1 H pv n y) (hy : PermL n y) :
    ACalls Try.prog 217 [.agg #[.int .i64 n, u], pv] H (fun r H' => ∃ (q : Int × Int) (w : Value) (ll : List (List Int)), r = .tuple #[.agg #[.int .i64 q.1, w], .int .i64 q.2] ∧ (0 ≤ q.1 ∧ q.1 ≤ 16) ∧ EvL ll ∧ Ow H H' [.sl2 (Value.int .i64) 38 2 w ll]) := by
  refine ACalls.wf (by kernel_rfl) fun hs => acalls_of_awp [.cell 4 65, .tmp 5] Try.func217 (by kernel_rfl) rfl rfl (Nat.le_of_ble_eq_true rfl) (by kernel_rfl) ?_
  have hone := hu.one
  have hpo := hp.one
  have hyl := hy.len
  have o1 := ((Ow.refl hs).push ⟨65, true, [.int .i64 n, u]⟩).push ⟨65, true, [.int .i64 0, .slice none 0 0]⟩
  try simp (disch := first | omega | (simp only [ints_length, List.length_replicate, List.length_set] <;> omega)) only [Sall,evalOp,init,binE,binI,unE,convE,okNil,builtE,gv,TD.isAgg,resV,↓reduceIte,Nat.reduceEqDiff,reduceCtorEq,Nat.reduceAdd,Nat.reduceMul,Nat.reduceLeDiff,quietOp,blindOp,Int.reduceEq,Int.reduceLT,Int.reduceLE,Nat.reduceLT,tiA,tiXA, hone]
  obtain ⟨pi, epi⟩ : ∃ pi, pi = H.next := ⟨_, rfl⟩
  have o1 : Ow H ((H.push ⟨65, true, [.int .i64 n, u]⟩).push ⟨65, true, [.int .i64 0, .slice none 0 0]⟩) [.row H.next ⟨65, true, [.int .i64 n, u]⟩, .row (H.next + 1) ⟨65, true, [.int .i64 0, .slice none 0 0]⟩] := o1
  rw [← epi] at o1 ⊢
  generalize (H.push ⟨65, true, [.int .i64 n, u]⟩).push ⟨65, true, [.int .i64 0, .slice none 0 0]⟩ = H1 at o1 ⊢
  have hu1 := hu.same (o1.old hs)
  have g0 := (o1.rowAt 0 rfl).1
  have g1 := (o1.rowAt 1 rfl).1
  have bad : ∀ c : Int, ∃ (q : Int × Int) (w : Value) (ll : List (List Int)), (.tuple #[.agg #[.int .i64 0, .slice none 0 0], .int .i64 c] : Value) = .tuple #[.agg #[.int .i64 q.1, w], .int .i64 q.2] ∧ (0 ≤ q.1 ∧ q.1 ≤ 16) ∧ EvL ll ∧ Ow H (H1.setCells (pi + 1) [.int .i64 0, .slice none 0 0]) [.sl2 (Value.int .i64) 38 2 w ll] := fun c => by
    have o2 := o1.putRow 1 rfl (cs' := [.int .i64 0, .slice none 0 0])
    exact ⟨(0, c), _, [], rfl, ⟨by omega, by omega⟩, EvL.nil, Ow.add (Ow.left (L := []) o2) _ (Nat.le_refl _) o2.sc (fun _ _ => rfl) fun S hS => .inl ⟨rfl, rfl⟩⟩
  try simp (disch := first | omega | (simp only [ints_length, List.length_replicate, List.length_set] <;> omega)) only [Sall,evalOp,init,binE,binI,unE,convE,okNil,builtE,gv,TD.isAgg,resV,↓reduceIte,Nat.reduceEqDiff,reduceCtorEq,Nat.reduceAdd,Nat.reduceMul,Nat.reduceLeDiff,quietOp,blindOp,Int.reduceEq,Int.reduceLT,Int.reduceLE,Nat.reduceLT,tiA,tiXA, g0, hone]
  refine (l06Is_c n u R H1 hu1 (by have := hR.1; omega) (fun r hr => by have := hR.2 r hr; omega)).to ?_
  refine Holds.mp ?_
  obtain hE | hE : evB n R = true ∨ evB n R = false := by cases evB n R <;> simp
  · obtain ⟨n', en, h4, h16, h20, hall⟩ := evB_at hE
    obtain rfl : n = n' := by omega
    try simp (disch := first | omega | (simp only [ints_length, List.length_replicate, List.length_set] <;> omega)) only [Sall,evalOp,init,binE,binI,unE,convE,okNil,builtE,gv,TD.isAgg,resV,↓reduceIte,Nat.reduceEqDiff,reduceCtorEq,Nat.reduceAdd,Nat.reduceMul,Nat.reduceLeDiff,quietOp,blindOp,Int.reduceEq,Int.reduceLT,Int.reduceLE,Nat.reduceLT,tiA,tiXA, hE, Bool.not_true, g0]
    refine (l01Order_c n (by omega) pv y H1 (by rw [hyl]; exact hp.same (o1.old hs)) (by omega)).to ?_
    refine Holds.mp ?_
    cases hO : ordB n y with
    | false =>
      try simp (disch := first | omega | (simp only [ints_length, List.length_replicate, List.length_set] <;> omega)) only [Sall,evalOp,init,binE,binI,unE,convE,okNil,builtE,gv,TD.isAgg,resV,↓reduceIte,Nat.reduceEqDiff,reduceCtorEq,Nat.reduceAdd,Nat.reduceMul,Nat.reduceLeDiff,quietOp,blindOp,Int.reduceEq,Int.reduceLT,Int.reduceLE,Nat.reduceLT,tiA,tiXA, Bool.not_false, g1]
      exact bad 2
    | true =>
      have o2 := ((o1.pushSl2 (Value.int .i64) 38 2).push ⟨65, true, [.int .i64 0, .slice none 0 0]⟩)
      have zz0 : zeros 0 [.slice none 0 0] = [] := rfl
      have npi : ¬ pi = H1.next := by have := (o1.rowAt 0 rfl).2.2; omega
      try simp (disch := first | omega | (simp only [ints_length, List.length_replicate, List.length_set] <;> omega)) only [Sall,evalOp,init,binE,binI,unE,convE,okNil,builtE,gv,TD.isAgg,resV,↓reduceIte,Nat.reduceEqDiff,reduceCtorEq,Nat.reduceAdd,Nat.reduceMul,Nat.reduceLeDiff,quietOp,blindOp,Int.reduceEq,Int.reduceLT,Int.reduceLE,Nat.reduceLT,tiA,tiXA, Bool.not_true, g0, zz0, npi]
      have o3 := o2.putRow 3 rfl (cs' := [.int .i64 n, .slice (some ⟨H1.next, 0, some 1⟩) 0 0])
      obtain ⟨ri, eri⟩ : ∃ ri, ri = H1.next + 1 := ⟨_, rfl⟩
      have eri2 : (H1.push ⟨38, true, []⟩).next = ri := by rw [eri]; rfl
      rw [eri2] at o3
      rw [← eri]
      refine awp_loop (fun z t H' => ∃ (i : Nat) (w : Value) (ll : List (List Int)), z = R.length - i ∧ i ≤ R.length ∧ t 7 = .int .i64 i ∧ t 1 = pv ∧ t 2 = .pointer (some ⟨pi, 0, none⟩) ∧ t 4 = .pointer (some ⟨pi + 1, 0, none⟩) ∧ t 6 = .pointer (some ⟨ri, 0, none⟩) ∧ ll.length = i ∧ (∀ r ∈ ll, r.length ≤ 64) ∧ Ow H H' [.row pi ⟨65, true, [.int .i64 n, u]⟩, .row (pi + 1) ⟨65, true, [.int .i64 0, .slice none 0 0]⟩, .sl2 (Value.int .i64) 38 2 w ll, .row ri ⟨65, true, [.int .i64 n, w]⟩]) R.length ?_ ?_
      · refine ⟨0, .slice (some ⟨H1.next, 0, some 1⟩) 0 0, [], by omega, by omega, ?_⟩
        try simp (disch := first | omega | (simp only [ints_length, List.length_replicate, List.length_set] <;> omega)) only [Sall,evalOp,init,binE,binI,unE,convE,okNil,builtE,gv,TD.isAgg,resV,↓reduceIte,Nat.reduceEqDiff,reduceCtorEq,Nat.reduceAdd,Nat.reduceMul,Nat.reduceLeDiff,quietOp,blindOp,Int.reduceEq,Int.reduceLT,Int.reduceLE,Nat.reduceLT,tiA,tiXA, Int.natCast_zero]
        exact ⟨fun r h => by simp at h, o3⟩
      · rintro z t H2 ⟨i, w, ll, hz, hi, h7, h1, h2, h4', h6, hll, hlr, o4⟩
        have g0 := (o4.rowAt 0 rfl).1
        have hu4 := hu.same (o4.old hs)
        have lu := hu4.len
        try simp (disch := first | omega | (simp only [ints_length, List.length_replicate, List.length_set] <;> omega)) only [Sall,evalOp,init,binE,binI,unE,convE,okNil,builtE,gv,TD.isAgg,resV,↓reduceIte,Nat.reduceEqDiff,reduceCtorEq,Nat.reduceAdd,Nat.reduceMul,Nat.reduceLeDiff,quietOp,blindOp,Int.reduceEq,Int.reduceLT,Int.reduceLE,Nat.reduceLT,tiA,tiXA, h7, h2, g0, builtE, lu]
        refine condC_dec (fun hh => ?_) (fun hh => ?_)
        · obtain ⟨row, erow⟩ : ∃ row, row = R.getD i [] := ⟨_, rfl⟩
          have hrow := hall i (by omega)
          rw [← erow] at hrow
          have zz1 : zeros 0 [.int .i64 0] = ints [] := rfl
          try simp (disch := first | omega | (simp only [ints_length, List.length_replicate, List.length_set] <;> omega)) only [Sall,evalOp,init,binE,binI,unE,convE,okNil,builtE,gv,TD.isAgg,resV,↓reduceIte,Nat.reduceEqDiff,reduceCtorEq,Nat.reduceAdd,Nat.reduceMul,Nat.reduceLeDiff,quietOp,blindOp,Int.reduceEq,Int.reduceLT,Int.reduceLE,Nat.reduceLT,tiA,tiXA, zz1]
          have o5 := o4.pushSl (k := 1) (n := 0) (ty := 2) (vs := ints []) rfl
          refine awp_loop (fun z' t H' => ∃ (k : Nat) (x : Value) (l : List Int), z' = row.length - k ∧ k ≤ row.length ∧ t 9 = .int .i64 k ∧ t 8 = x ∧ t 7 = .int .i64 i ∧ t 1 = pv ∧ t 2 = .pointer (some ⟨pi, 0, none⟩) ∧ t 4 = .pointer (some ⟨pi + 1, 0, none⟩) ∧ t 6 = .pointer (some ⟨ri, 0, none⟩) ∧ l.length = k ∧ Ow H H' [.row pi ⟨65, true, [.int .i64 n, u]⟩, .row (pi + 1) ⟨65, true, [.int .i64 0, .slice none 0 0]⟩, .sl2 (Value.int .i64) 38 2 w ll, .row ri ⟨65, true, [.int .i64 n, w]⟩, .sl 1 2 x k (ints l)]) row.length ?_ ?_
          · refine ⟨0, .slice (some ⟨H2.next, 0, some 1⟩) 0 0, [], by omega, by omega, ?_⟩
            try simp (disch := first | omega | (simp only [ints_length, List.length_replicate, List.length_set] <;> omega)) only [Sall,evalOp,init,binE,binI,unE,convE,okNil,builtE,gv,TD.isAgg,resV,↓reduceIte,Nat.reduceEqDiff,reduceCtorEq,Nat.reduceAdd,Nat.reduceMul,Nat.reduceLeDiff,quietOp,blindOp,Int.reduceEq,Int.reduceLT,Int.reduceLE,Nat.reduceLT,tiA,tiXA, Int.natCast_zero]
            exact ⟨h7, h1, h2, h4', h6, o5⟩
          · rintro z' t H3 ⟨k, x, l, hz', hk, h9, h8, h7, h1, h2, h4', h6, hlk, o6⟩
            have g0 := (o6.rowAt 0 rfl).1
            have hu6 := hu.same (o6.old hs)
            obtain ⟨xi, xo, xuu, xc, xr, yv, my, ex, hxr, hyv, hsx, hok⟩ := hu6.get (j := i) (by omega)
            rw [← erow] at hsx
            have hmm := hsx.lenK1
            subst hmm
            have ly := hsx.len
            have hx := o6.one 4 rfl
            try simp (disch := first | omega | (simp only [ints_length, List.length_replicate, List.length_set] <;> omega)) only [Sall,evalOp,init,binE,binI,unE,convE,okNil,builtE,gv,TD.isAgg,resV,↓reduceIte,Nat.reduceEqDiff,reduceCtorEq,Nat.reduceAdd,Nat.reduceMul,Nat.reduceLeDiff,quietOp,blindOp,Int.reduceEq,Int.reduceLT,Int.reduceLE,Nat.reduceLT,tiA,tiXA, h9, h7, h2, g0, ex, hxr, hyv, hok, builtE, ly]
            refine ⟨by omega, ?_⟩
            refine condC_dec (fun hh => ?_) (fun hh => ?_)
            · obtain ⟨ci, co, cu, cc, cr, rfl, c1, c2, c3, c4⟩ := hsx.get (by omega)
              have c5 := c3 k (by omega)
              have r1 := hrow.2.2.1 (row.getD k 0) (by rw [List.getD_eq_getElem?_getD, List.getElem?_eq_getElem (by omega)]; exact List.getElem_mem _)
              obtain ⟨di, dd, du, dc, dr, ed, d1, d2, d3, d4⟩ := (hp.same (o6.old hs)).get (by omega)
              have d5 := d3 (row.getD k 0).toNat (by omega)
              obtain ⟨x1, ex1⟩ : ∃ x1, x1 = row.getD k 0 := ⟨_, rfl⟩
              rw [← ex1] at c5 d5 r1
              obtain ⟨p1, ep1⟩ : ∃ p1, p1 = y.getD x1.toNat 0 := ⟨_, rfl⟩
              rw [← ep1] at d5
              have zz : zeros 1 [.int .i64 0] = [.int .i64 0] := rfl
              try simp (disch := first | omega | (simp only [ints_length, List.length_replicate, List.length_set] <;> omega)) only [Sall,evalOp,init,binE,binI,unE,convE,okNil,builtE,gv,TD.isAgg,resV,↓reduceIte,Nat.reduceEqDiff,reduceCtorEq,Nat.reduceAdd,Nat.reduceMul,Nat.reduceLeDiff,quietOp,blindOp,Int.reduceEq,Int.reduceLT,Int.reduceLE,Nat.reduceLT,tiA,tiXA, h9, h8, h7, h1, h2, g0, ex, hxr, hyv, hok, c1, c5, ed, d1, d5, zz, slCells, hx, w64]
              (repeat refine And.intro (by omega) ?_)
              refine (o6.tmp ⟨2, true, [.int .i64 p1]⟩).app 4 rfl rfl (by omega) rfl (by omega) (by decide) (by omega) ?_
              intro v' H4 n4 o7
              try simp (disch := first | omega | (simp only [ints_length, List.length_replicate, List.length_set] <;> omega)) only [Sall,evalOp,init,binE,binI,unE,convE,okNil,builtE,gv,TD.isAgg,resV,↓reduceIte,Nat.reduceEqDiff,reduceCtorEq,Nat.reduceAdd,Nat.reduceMul,Nat.reduceLeDiff,quietOp,blindOp,Int.reduceEq,Int.reduceLT,Int.reduceLE,Nat.reduceLT,tiA,tiXA, h9, h7, h1, h2, h4', h6, w64]
              refine ⟨row.length - (k + 1), by omega, k + 1, v', l ++ [p1], rfl, by omega, by omega, rfl, by rw [List.length_append, hlk]; rfl, ?_⟩
              rw [← ints_append] at *
              exact o7
            · have hlk2 : l.length = k := hlk
              have g3 := (o6.rowAt 3 rfl).1
              have hw := (o6.rd2 2 rfl).one
              have zz : zeros 1 [.slice none 0 0] = [.slice none 0 0] := rfl
              have hq1 := cells_of_one hx
              have hq2 := noTuple_of_one hx
              have hq3 := fun rr => ok_one (r := rr) hx
              have hw3 := fun rr => ok_one (r := rr) hw
              have nri : ¬ ri = H3.next := by have := (o6.rowAt 3 rfl).2.2; omega
              try simp (disch := first | omega | (simp only [ints_length, List.length_replicate, List.length_set] <;> omega)) only [Sall,evalOp,init,binE,binI,unE,convE,okNil,builtE,gv,TD.isAgg,resV,↓reduceIte,Nat.reduceEqDiff,reduceCtorEq,Nat.reduceAdd,Nat.reduceMul,Nat.reduceLeDiff,quietOp,blindOp,Int.reduceEq,Int.reduceLT,Int.reduceLE,Nat.reduceLT,tiA,tiXA, h6, h8, hx, g3, hw, zz, slCells, hq1, hq2, hq3, hw3, nri]
              (repeat refine And.intro (by omega) ?_)
              refine (o6.tmp ⟨38, true, [x]⟩).app2 (l := l) 2 4 rfl (by rw [← hlk2]; rfl) (by omega) rfl (by decide) (by omega) ?_
              intro v' H4 n4 o7
              have g3' := (o7.rowAt 3 rfl).1
              have hv' := (o7.rd2 2 rfl).one
              try simp (disch := first | omega | (simp only [ints_length, List.length_replicate, List.length_set] <;> omega)) only [Sall,evalOp,init,binE,binI,unE,convE,okNil,builtE,gv,TD.isAgg,resV,↓reduceIte,Nat.reduceEqDiff,reduceCtorEq,Nat.reduceAdd,Nat.reduceMul,Nat.reduceLeDiff,quietOp,blindOp,Int.reduceEq,Int.reduceLT,Int.reduceLE,Nat.reduceLT,tiA,tiXA, h6, h7, h1, h2, h4', g3', hv', w64]
              refine ⟨R.length - (i + 1), by omega, i + 1, v', ll ++ [l], rfl, by omega, by omega, by simp [hll], fun r hr => ?_, ?_⟩
              · rcases List.mem_append.1 hr with h | h
                · exact hlr r h
                · rw [List.mem_singleton] at h; rw [h]; omega
              · have o8 : Ow H (H4.setCells ri [.int .i64 n, v']) ([.row pi ⟨65, true, [.int .i64 n, u]⟩, .row (pi + 1) ⟨65, true, [.int .i64 0, .slice none 0 0]⟩, .sl2 (Value.int .i64) 38 2 v' (ll ++ [l]), .row ri ⟨65, true, [.int .i64 n, v']⟩] ++ [.no]) := o7.putRow 3 rfl (cs' := [.int .i64 n, v'])
                exact o8.left
        · have g3 := (o4.rowAt 3 rfl).1
          have g1 := (o4.rowAt 1 rfl).1
          have hw := (o4.rd2 2 rfl).one
          try simp (disch := first | omega | (simp only [ints_length, List.length_replicate, List.length_set] <;> omega)) only [Sall,evalOp,init,binE,binI,unE,convE,okNil,builtE,gv,TD.isAgg,resV,↓reduceIte,Nat.reduceEqDiff,reduceCtorEq,Nat.reduceAdd,Nat.reduceMul,Nat.reduceLeDiff,quietOp,blindOp,Int.reduceEq,Int.reduceLT,Int.reduceLE,Nat.reduceLT,tiA,tiXA, h6, g3, hw, g1, h4']
          refine ⟨(n, 0), w, ll, rfl, ⟨by omega, by omega⟩, ⟨by omega, hlr⟩, ?_⟩
          exact (o4.putRow 1 rfl (cs' := [.int .i64 n, w])).only 2 rfl
  · try simp (disch := first | omega | (simp only [ints_length, List.length_replicate, List.length_set] <;> omega)) only [Sall,evalOp,init,binE,binI,unE,convE,okNil,builtE,gv,TD.isAgg,resV,↓reduceIte,Nat.reduceEqDiff,reduceCtorEq,Nat.reduceAdd,Nat.reduceMul,Nat.reduceLeDiff,quietOp,blindOp,Int.reduceEq,Int.reduceLT,Int.reduceLE,Nat.reduceLT,tiA,tiXA, hE, Bool.not_false, g1]
    exact bad 1
end Go.Proofs.Ytgkmdfjjlghecaa.A
end

section
set_option linter.unusedSimpArgs false
set_option linter.unusedVariables false
set_option maxRecDepth 100000
set_option maxHeartbeats 2000000
namespace Go.Proofs.Ytgkmdfjjlghecaa.A
open Go Go.Abs Go.RowKit

def DrawnE (cv : Value) (nb si : Nat) (H : AH) (v : Value) (H' : AH) : Prop :=
  ∃ (q : Int) (u : Value) (ws : List Value) (ll : List (List Int)), v = .agg #[.int .i64 q, u] ∧ (0 ≤ q ∧ q ≤ 16) ∧ EvL ll ∧ Dq cv nb si H H' [.see (Rw u ws ll)]
theorem Dq.sees {cv : Value} {nb si : Nat} {H H' : AH} {L : List Th} (h : Dq cv nb si H H' L) (k : Nat) {Q : AH → Prop} (hk : L[k]? = some (.see Q)) : Q H' := by
  obtain ⟨B, b, o⟩ := h.ex
  exact o.sees k hk
theorem EvL.made {n m : Nat} {y : List Int} (hm : m ≤ 64) (hy : y.length ≤ 64) : EvL (madeL m y m) := ⟨by rw [madeL_length]; exact hm, fun r hr => by
  unfold madeL at hr
  rw [List.mem_map] at hr
  obtain ⟨i, _, rfl⟩ := hr
  rw [mdL_length]; exact hy⟩
theorem Dq.sl2Rw {cv : Value} {nb si : Nat} {H H' : AH} {L : List Th} (h : Dq cv nb si H H' L) (k : Nat) {ty ty' : TypeId} {u : Value} {ll : List (List Int)} (hk : L[k]? = some (.sl2 (Value.int .i64) ty ty' u ll)) : ∃ ws, Dq cv nb si H H' [.see (Rw u ws ll)] := by
  obtain ⟨B, b, o⟩ := h.ex
  obtain ⟨ws, o'⟩ := o.sl2Rw k hk
  exact ⟨ws, ⟨⟨B, b, o'⟩⟩⟩

theorem condB_cut {P : Program} {A : Code} {id : Nat} {Q : Exit → T → AH → Prop} {N : T → AH → Prop} {t : T} {H : AH} {b : Bool} (M : T → AH → Prop) (hf : b = false → M t H) (ht : b = true → awp P A (blockQ id (seqQ M Q)) t H) (hN : ∀ t H, M t H → N t H) :
    condC (some (.bool b)) (awp P A (blockQ id (seqQ N Q)) t H) (N t H) := by
  cases b with
  | false => exact hN _ _ (hf rfl)
  | true => exact awp_mono A _ _ t H (blockQ_mono (seqQ_mono hN fun _ _ _ h => h)) (ht rfl)

theorem l06DrawOf_c (cv : Value) (nb si : Nat) (H : AH) (hnb : nb ≤ 4611686018427387904) (hs : Src cv nb si H) (hc : CodeX cv nb si H) :
    ACalls Try.prog 181 [.pointer (some ⟨si, 0, none⟩)] H (DrawnE cv nb si H) := by
  refine ACalls.wf (by kernel_rfl) fun hsc => acalls_of_awp [.cell 2 65] Try.func181 (by kernel_rfl) rfl rfl (Nat.le_of_ble_eq_true rfl) (by kernel_rfl) ?_
  obtain ⟨_, _, hrow, _⟩ := id hs
  have hsi := hsc _ _ hrow
  clear hrow
  have d0 := (Dq.start hs hsc).push ⟨65, true, [.int .i64 0, .slice none 0 0]⟩
  have d0 : Dq cv nb si H (H.push ⟨65, true, [.int .i64 0, .slice none 0 0]⟩) [.row H.next ⟨65, true, [.int .i64 0, .slice none 0 0]⟩] := d0
  have hb : ∀ (t : T) (H : AH), evalOp Try.prog t H (.buildSlice 38 9 #[(0, .const (.int .i64 4)), (1, .const (.int .i64 5)), (2, .const (.int .i64 8)), (3, .const (.int .i64 8)), (4, .const (.int .i64 9)), (5, .const (.int .i64 12)), (6, .const (.int .i64 13)), (7, .const (.int .i64 7)), (8, .const (.int .i64 16))]) = .need (9 ≤ 16777216 ∧ 9 * 1 ≤ 16777216) (.val (.slice (some ⟨H.next, 0, some 1⟩) 9 9) (H.push ⟨2, true, ints [4, 5, 8, 8, 9, 12, 13, 7, 16]⟩)) := fun t H => by kernel_rfl
  generalize (Op.buildSlice 38 9 #[(0, .const (.int .i64 4)), (1, .const (.int .i64 5)), (2, .const (.int .i64 8)), (3, .const (.int .i64 8)), (4, .const (.int .i64 9)), (5, .const (.int .i64 12)), (6, .const (.int .i64 13)), (7, .const (.int .i64 7)), (8, .const (.int .i64 16))]) = bop at hb ⊢
  have hb8 : ∀ (t : T) (H : AH), evalOp Try.prog t H (.buildSlice 38 8 #[(0, .const (.int .i64 7)), (1, .const (.int .i64 0)), (2, .const (.int .i64 4)), (3, .const (.int .i64 5)), (4, .const (.int .i64 1)), (5, .const (.int .i64 3)), (6, .const (.int .i64 2)), (7, .const (.int .i64 6))]) = .need (8 ≤ 16777216 ∧ 8 * 1 ≤ 16777216) (.val (.slice (some ⟨H.next, 0, some 1⟩) 8 8) (H.push ⟨2, true, ints [7, 0, 4, 5, 1, 3, 2, 6]⟩)) := fun t H => by kernel_rfl
  generalize (Op.buildSlice 38 8 #[(0, .const (.int .i64 7)), (1, .const (.int .i64 0)), (2, .const (.int .i64 4)), (3, .const (.int .i64 5)), (4, .const (.int .i64 1)), (5, .const (.int .i64 3)), (6, .const (.int .i64 2)), (7, .const (.int .i64 6))]) = bop8 at hb8 ⊢
  have hb4 : ∀ (t : T) (H : AH), evalOp Try.prog t H (.buildSlice 38 4 #[(0, .const (.int .i64 3)), (1, .const (.int .i64 0)), (2, .const (.int .i64 1)), (3, .const (.int .i64 2))]) = .need (4 ≤ 16777216 ∧ 4 * 1 ≤ 16777216) (.val (.slice (some ⟨H.next, 0, some 1⟩) 4 4) (H.push ⟨2, true, ints [3, 0, 1, 2]⟩)) := fun t H => by kernel_rfl
  generalize (Op.buildSlice 38 4 #[(0, .const (.int .i64 3)), (1, .const (.int .i64 0)), (2, .const (.int .i64 1)), (3, .const (.int .i64 2))]) = bop4 at hb4 ⊢
  have hb5 : ∀ (t : T) (H : AH), evalOp Try.prog t H (.buildSlice 38 4 #[(0, .const (.int .i64 1)), (1, .const (.int .i64 4)), (2, .const (.int .i64 2)), (3, .const (.int .i64 3))]) = .need (4 ≤ 16777216 ∧ 4 * 1 ≤ 16777216) (.val (.slice (some ⟨H.next, 0, some 1⟩) 4 4) (H.push ⟨2, true, ints [1, 4, 2, 3]⟩)) := fun t H => by kernel_rfl
  generalize (Op.buildSlice 38 4 #[(0, .const (.int .i64 1)), (1, .const (.int .i64 4)), (2, .const (.int .i64 2)), (3, .const (.int .i64 3))]) = bop5 at hb5 ⊢
  simp (config := {maxSteps := 3000000}) (disch := first | omega | (simp only [ints_length, List.length_replicate, List.length_set] <;> omega)) only [Sall,evalOp,init,binE,binI,unE,convE,okNil,builtE,gv,TD.isAgg,resV,↓reduceIte,Nat.reduceEqDiff,reduceCtorEq,Nat.reduceAdd,Nat.reduceMul,Nat.reduceLeDiff,quietOp,blindOp,Int.reduceEq,Int.reduceLT,Int.reduceLE,Nat.reduceLT,tiA,tiXA, ↓hb]
  refine (pickL [4, 5, 8, 8, 9, 12, 13, 7, 16] 9 rfl (by omega) (by omega) d0 hsi hc hsc hnb).ex ?_
  rintro x H2 ⟨hx, d1⟩
  have hx2 : 4 ≤ x ∧ x ≤ 16 := by
    simp only [List.mem_cons, List.not_mem_nil, or_false] at hx
    omega
  obtain ⟨n, rfl⟩ : ∃ n : Nat, x = n := ⟨x.toNat, by omega⟩
  have hn : 4 ≤ n ∧ n ≤ 16 := by omega
  refine Holds.mp ?_
  try simp (disch := first | omega | (simp only [ints_length, List.length_replicate, List.length_set] <;> omega)) only [Sall,evalOp,init,binE,binI,unE,convE,okNil,builtE,gv,TD.isAgg,resV,↓reduceIte,Nat.reduceEqDiff,reduceCtorEq,Nat.reduceAdd,Nat.reduceMul,Nat.reduceLeDiff,quietOp,blindOp,Int.reduceEq,Int.reduceLT,Int.reduceLE,Nat.reduceLT,tiA,tiXA, true_and]
  refine (nextD 3 d1 hsi hc hsc hnb (by omega)).ex ?_
  rintro c H3 ⟨hc3, d2⟩
  refine Holds.mp ?_
  try simp (disch := first | omega | (simp only [ints_length, List.length_replicate, List.length_set] <;> omega)) only [Sall,evalOp,init,binE,binI,unE,convE,okNil,builtE,gv,TD.isAgg,resV,↓reduceIte,Nat.reduceEqDiff,reduceCtorEq,Nat.reduceAdd,Nat.reduceMul,Nat.reduceLeDiff,quietOp,blindOp,Int.reduceEq,Int.reduceLT,Int.reduceLE,Nat.reduceLT,tiA,tiXA, true_and]
  by_cases c0 : (c : Int) = 0
  · have f0 : ((c : Int) == 0) = true := beq_iff_eq.2 c0
    have zz3 : zeros 3 [.slice none 0 0] = [.slice none 0 0, .slice none 0 0, .slice none 0 0] := rfl
    have s0 : ∀ a b c x : Value, splice [a, b, c] 0 [x] = [x, b, c] := fun _ _ _ _ => rfl
    have s1 : ∀ a b c x : Value, splice [a, b, c] 1 [x] = [a, x, c] := fun _ _ _ _ => rfl
    have s2 : ∀ a b c x : Value, splice [a, b, c] 2 [x] = [a, b, x] := fun _ _ _ _ => rfl
    have l3 : ∀ a b c : Value, [a, b, c].length = 3 := fun _ _ _ => rfl
    simp (config := {maxSteps := 3000000}) (disch := first | omega | (simp only [ints_length, List.length_replicate, List.length_set] <;> omega)) only [Sall,evalOp,init,binE,binI,unE,convE,okNil,builtE,gv,TD.isAgg,resV,↓reduceIte,Nat.reduceEqDiff,reduceCtorEq,Nat.reduceAdd,Nat.reduceMul,Nat.reduceLeDiff,quietOp,blindOp,Int.reduceEq,Int.reduceLT,Int.reduceLE,Nat.reduceLT,tiA,tiXA, f0, ↓hb4, ↓hb5, ↓hb8, zz3, s0, s1, s2, l3]
    have d3 : Dq cv nb si H ((((H3.push ⟨2, true, ints [3, 0, 1, 2]⟩).push ⟨2, true, ints [1, 4, 2, 3]⟩).push ⟨2, true, ints [7, 0, 4, 5, 1, 3, 2, 6]⟩).push ⟨38, true, [.slice (some ⟨H3.next, 0, some 1⟩) 4 4, .slice (some ⟨H3.next + 1, 0, some 1⟩) 4 4, .slice (some ⟨H3.next + 2, 0, some 1⟩) 8 8]⟩) [.row H.next ⟨65, true, [.int .i64 0, .slice none 0 0]⟩, .sl 1 2 (.slice (some ⟨H3.next, 0, some 1⟩) 4 4) 4 (ints [3, 0, 1, 2]), .sl 1 2 (.slice (some ⟨H3.next + 1, 0, some 1⟩) 4 4) 4 (ints [1, 4, 2, 3]), .sl 1 2 (.slice (some ⟨H3.next + 2, 0, some 1⟩) 8 8) 8 (ints [7, 0, 4, 5, 1, 3, 2, 6]), .sl 1 38 (.slice (some ⟨H3.next + 1 + 2, 0, some 1⟩) 3 3) 3 [.slice (some ⟨H3.next, 0, some 1⟩) 4 4, .slice (some ⟨H3.next + 1, 0, some 1⟩) 4 4, .slice (some ⟨H3.next + 2, 0, some 1⟩) 8 8]] :=
      d2.map fun B o => (((o.pushSl (k := 1) (n := 4) (ty := 2) (vs := ints [3, 0, 1, 2]) rfl).pushSl (k := 1) (n := 4) (ty := 2) (vs := ints [1, 4, 2, 3]) rfl).pushSl (k := 1) (n := 8) (ty := 2) (vs := ints [7, 0, 4, 5, 1, 3, 2, 6]) rfl).pushSl (k := 1) (n := 3) (ty := 38) (vs := [.slice (some ⟨H3.next, 0, some 1⟩) 4 4, .slice (some ⟨H3.next + 1, 0, some 1⟩) 4 4, .slice (some ⟨H3.next + 2, 0, some 1⟩) 8 8]) rfl
    generalize ((((H3.push ⟨2, true, ints [3, 0, 1, 2]⟩).push ⟨2, true, ints [1, 4, 2, 3]⟩).push ⟨2, true, ints [7, 0, 4, 5, 1, 3, 2, 6]⟩).push ⟨38, true, [.slice (some ⟨H3.next, 0, some 1⟩) 4 4, .slice (some ⟨H3.next + 1, 0, some 1⟩) 4 4, .slice (some ⟨H3.next + 2, 0, some 1⟩) 8 8]⟩) = H4 at d3 ⊢
    obtain ⟨wi, ewi⟩ : ∃ wi, wi = H3.next := ⟨_, rfl⟩
    rw [← ewi] at d3 ⊢
    refine (nextD 3 d3 hsi hc hsc hnb (by omega)).ex ?_
    rintro y H5 ⟨hy, d4⟩
    have hy3 : y = 0 ∨ y = 1 ∨ y = 2 := by omega
    obtain ⟨B4, b4, o4⟩ := id d4.ex
    have gw := (o4.getV 4 rfl).2.2
    have pick : ∃ (bi m p : Nat) (q4 r t s o0 : Int) (ol : List Int), ([.slice (some ⟨wi, 0, some 1⟩) 4 4, .slice (some ⟨wi + 1, 0, some 1⟩) 4 4, .slice (some ⟨wi + 2, 0, some 1⟩) 8 8] : List Value)[y]? = some (.slice (some ⟨bi, 0, some 1⟩) m m) ∧ Dq cv nb si H H5 [.row H.next ⟨65, true, [.int .i64 0, .slice none 0 0]⟩, .sl 1 2 (.slice (some ⟨bi, 0, some 1⟩) m m) m (ints ol)] ∧ (0 < m ∧ m ≤ 8) ∧ ol.length = m ∧ (4 ≤ p ∧ p ≤ 8) ∧ (∀ x, x ∈ ol → 0 ≤ x ∧ x < (p : Int)) ∧ (ints ol)[0]? = some (.int .i64 o0) ∧ Int.tdiv (m : Int) 4 = q4 ∧ Int.tmod q4 2 = r ∧ Int.tdiv o0 3 = t ∧ r * (1 - t) = s ∧ (m : Int) + s = p ∧ (0 ≤ q4 ∧ q4 ≤ 2) ∧ (0 ≤ r ∧ r ≤ 1) ∧ (0 ≤ t ∧ t ≤ 2) ∧ (0 ≤ s ∧ s ≤ 1) := by
      rcases hy3 with rfl | rfl | rfl
      · exact ⟨wi, 4, 4, 1, 1, 1, 0, 3, [3, 0, 1, 2], rfl, d4.map fun B o => o.pick2 0 1 rfl rfl (by omega), by omega, rfl, by omega, by decide, rfl, rfl, rfl, rfl, rfl, rfl, by omega, by omega, by omega, by omega⟩
      · exact ⟨wi + 1, 4, 5, 1, 1, 0, 1, 1, [1, 4, 2, 3], rfl, d4.map fun B o => o.pick2 0 2 rfl rfl (by omega), by omega, rfl, by omega, by decide, rfl, rfl, rfl, rfl, rfl, rfl, by omega, by omega, by omega, by omega⟩
      · exact ⟨wi + 2, 8, 8, 2, 0, 2, 0, 7, [7, 0, 4, 5, 1, 3, 2, 6], rfl, d4.map fun B o => o.pick2 0 3 rfl rfl (by omega), by omega, rfl, by omega, by decide, rfl, rfl, rfl, rfl, rfl, rfl, by omega, by omega, by omega, by omega⟩
    clear hy3
    obtain ⟨bi, m, p, q4, r, t, s, o0, ol, k1, d5, hm, hol, hp, hin, k2, k3, k4, k5, k6, k7, r1, r2, r3, r4⟩ := pick
    obtain ⟨B5, b5, o5⟩ := id d5.ex
    have gb := (o5.getV 1 rfl).2.2
    have yn : ((y : Nat) : Int).toNat = y := rfl
    refine Holds.mp ?_
    simp (config := {maxSteps := 3000000}) (disch := first | omega | (simp only [ints_length, List.length_replicate, List.length_set] <;> omega)) only [Sall,evalOp,init,binE,binI,unE,convE,okNil,builtE,gv,TD.isAgg,resV,↓reduceIte,Nat.reduceEqDiff,reduceCtorEq,Nat.reduceAdd,Nat.reduceMul,Nat.reduceLeDiff,quietOp,blindOp,Int.reduceEq,Int.reduceLT,Int.reduceLE,Nat.reduceLT,tiA,tiXA, gw, gb, yn, k1, k2, k3, k4, k5, k6, k7, Int.toNat_zero, builtE, w64]
    refine ⟨by omega, by omega, ?_⟩
    refine (ACalls.scz (g := fun u => .agg #[.int .i64 (p : Int), u]) (l06Made_c p (by omega) _ ol H5 (by rw [hol]; exact o5.rd 1 rfl) (by omega) hin)).ex ?_
    rintro u H6 ⟨⟨up6, f6⟩, sc6⟩
    have d6 := d5.calls (Ow.of_fr2 up6 sc6 f6)
    have hu := (d6.rd2 2 rfl).one
    have hEv : EvL (madeL (mOf p) ol (mOf p)) := EvL.made (n := p) (by unfold mOf; omega) (by omega)
    refine Holds.mp ?_
    try simp (disch := first | omega | (simp only [ints_length, List.length_replicate, List.length_set] <;> omega)) only [Sall,evalOp,init,binE,binI,unE,convE,okNil,builtE,gv,TD.isAgg,resV,↓reduceIte,Nat.reduceEqDiff,reduceCtorEq,Nat.reduceAdd,Nat.reduceMul,Nat.reduceLeDiff,quietOp,blindOp,Int.reduceEq,Int.reduceLT,Int.reduceLE,Nat.reduceLT,tiA,tiXA, hu]
    have d7 := (d6.push ⟨65, true, [.int .i64 0, .slice none 0 0]⟩).putRow 3 rfl (cs' := [.int .i64 p, u])
    obtain ⟨re, ere⟩ : ∃ re, re = H6.next := ⟨_, rfl⟩
    have d7 : Dq cv nb si H ((H6.push ⟨65, true, [.int .i64 0, .slice none 0 0]⟩).setCells H6.next [.int .i64 p, u]) [.row H.next ⟨65, true, [.int .i64 0, .slice none 0 0]⟩, .sl2 (Value.int .i64) 38 2 u (madeL (mOf p) ol (mOf p)), .row H6.next ⟨65, true, [.int .i64 p, u]⟩] := d7.map fun B o => o.pick3 0 2 3 rfl rfl rfl (by omega) (by omega) (by omega)
    have nre : ¬ re = si := by have := d6.le; omega
    rw [← ere] at d7 ⊢
    generalize (H6.push ⟨65, true, [.int .i64 0, .slice none 0 0]⟩).setCells re [.int .i64 p, u] = H7 at d7 ⊢
    clear ere
    have g2 := d7.rowAt 2 rfl
    refine awp_cutQ (fun t H' => ∃ (rk : Nat) (q : Int) (w : Value) (ll : List (List Int)), t 2 = .pointer (some ⟨H.next, 0, none⟩) ∧ t 7 = .pointer (some ⟨rk, 0, none⟩) ∧ (0 ≤ q ∧ q ≤ 16) ∧ EvL ll ∧ Dq cv nb si H H' [.row H.next ⟨65, true, [.int .i64 0, .slice none 0 0]⟩, .row rk ⟨65, true, [.int .i64 q, w]⟩, .sl2 (Value.int .i64) 38 2 w ll]) ?_ ?_
    · refine draw_treeS (fun j => j ≠ si) (OT.run [0, 1, 2, 3] (.two 4 9 (OT.run [] (.two 5 9 (OT.run [6, 7, 8, 9, 10, 11] .nil) (OT.run [5, 6, 7, 8, 10, 11] .nil))) (OT.run [4, 5, 6, 7, 8, 10, 11] .nil))) (by kernel_rfl) (by kernel_rfl) (Nat.le_of_ble_eq_true rfl) ?_
      try simp (disch := first | omega | (simp only [ints_length, List.length_replicate, List.length_set] <;> omega)) only [Sall,evalOp,init,binE,binI,unE,convE,okNil,builtE,gv,TD.isAgg,resV,↓reduceIte,Nat.reduceEqDiff,reduceCtorEq,Nat.reduceAdd,Nat.reduceMul,Nat.reduceLeDiff,quietOp,blindOp,Int.reduceEq,Int.reduceLT,Int.reduceLE,Nat.reduceLT,tiA,tiXA, awpTS_run_nil, awpTS_run_cons, awpTS_nil, awpTS_one, stepIS_op, loadOk, g2, hu, nre]
      refine awpTS_two ?_ ?_
      · try simp (disch := first | omega | (simp only [ints_length, List.length_replicate, List.length_set] <;> omega)) only [Sall,evalOp,init,binE,binI,unE,convE,okNil,builtE,gv,TD.isAgg,resV,↓reduceIte,Nat.reduceEqDiff,reduceCtorEq,Nat.reduceAdd,Nat.reduceMul,Nat.reduceLeDiff,quietOp,blindOp,Int.reduceEq,Int.reduceLT,Int.reduceLE,Nat.reduceLT,tiA,tiXA, awpTS_run_nil, awpTS_run_cons, awpTS_nil, awpTS_one, stepIS_op, loadOk, hu, nre]
        refine (l01DrawOrder_c cv nb si p H7 (by omega) hnb (d7.src hsi) (d7.code hc hsc)).mono ?_
        rintro w H8 ⟨y, B8, k8, o8, hpl⟩
        rw [Int.toNat_natCast] at o8 hpl
        have d8 := d7.call hsi k8 o8
        have hw := o8.one 0 rfl
        refine ⟨.inr (.inr (les_of k8 o8 d7.sc)), ?_⟩
        try simp (disch := first | omega | (simp only [ints_length, List.length_replicate, List.length_set] <;> omega)) only [Sall,evalOp,init,binE,binI,unE,convE,okNil,builtE,gv,TD.isAgg,resV,↓reduceIte,Nat.reduceEqDiff,reduceCtorEq,Nat.reduceAdd,Nat.reduceMul,Nat.reduceLeDiff,quietOp,blindOp,Int.reduceEq,Int.reduceLT,Int.reduceLE,Nat.reduceLT,tiA,tiXA, awpTS_run_nil, awpTS_run_cons, awpTS_nil, awpTS_one, stepIS_op, loadOk, hu, nre, hw]
        refine awpTS_two ?_ ?_
        · try simp (disch := first | omega | (simp only [ints_length, List.length_replicate, List.length_set] <;> omega)) only [Sall,evalOp,init,binE,binI,unE,convE,okNil,builtE,gv,TD.isAgg,resV,↓reduceIte,Nat.reduceEqDiff,reduceCtorEq,Nat.reduceAdd,Nat.reduceMul,Nat.reduceLeDiff,quietOp,blindOp,Int.reduceEq,Int.reduceLT,Int.reduceLE,Nat.reduceLT,tiA,tiXA, awpTS_run_nil, awpTS_run_cons, awpTS_nil, awpTS_one, stepIS_op, loadOk, hu, nre, hw]
          refine (specRenumberPlayers_c p u _ w y H8 (by omega) (d8.rd2 1 rfl) hEv (d8.rd 3 rfl) hpl).mono ?_
          rintro rv H9 ⟨q, w', ll', rfl, hq, hll, o9⟩
          have d9 := d8.calls o9
          have hw' := (o9.rd2 0 rfl).one
          refine ⟨.inr (.inr (LE.les (o9.up.le d8.sc))), ?_⟩
          try simp (disch := first | omega | (simp only [ints_length, List.length_replicate, List.length_set] <;> omega)) only [Sall,evalOp,init,binE,binI,unE,convE,okNil,builtE,gv,TD.isAgg,resV,↓reduceIte,Nat.reduceEqDiff,reduceCtorEq,Nat.reduceAdd,Nat.reduceMul,Nat.reduceLeDiff,quietOp,blindOp,Int.reduceEq,Int.reduceLT,Int.reduceLE,Nat.reduceLT,tiA,tiXA, awpTS_run_nil, awpTS_run_cons, awpTS_nil, awpTS_one, stepIS_op, loadOk, hw']
          have da := (d9.push ⟨65, true, [.int .i64 0, .slice none 0 0]⟩).putRow 5 rfl (cs' := [.int .i64 q.1, w'])
          exact ⟨.inr (.inr (LE.les (d9.sc.le _))), .inr (.inl (by kernel_rfl)), _, q.1, w', ll', rfl, hq, hll, da.map fun B o => o.pick3 0 5 4 rfl rfl rfl (by omega) (by omega) (by omega)⟩
        · try simp (disch := first | omega | (simp only [ints_length, List.length_replicate, List.length_set] <;> omega)) only [Sall,evalOp,init,binE,binI,unE,convE,okNil,builtE,gv,TD.isAgg,resV,↓reduceIte,Nat.reduceEqDiff,reduceCtorEq,Nat.reduceAdd,Nat.reduceMul,Nat.reduceLeDiff,quietOp,blindOp,Int.reduceEq,Int.reduceLT,Int.reduceLE,Nat.reduceLT,tiA,tiXA, awpTS_run_nil, awpTS_run_cons, awpTS_nil, awpTS_one, stepIS_op, loadOk, hu, nre, hw]
          have d9 := d8.push ⟨65, true, [.int .i64 0, .slice none 0 0]⟩
          refine ⟨.inr (.inr (LE.les (d8.sc.le _))), ?_⟩
          obtain ⟨rk, erk⟩ : ∃ rk, rk = H8.next := ⟨_, rfl⟩
          rw [← erk] at d9 ⊢
          generalize H8.push ⟨65, true, [.int .i64 0, .slice none 0 0]⟩ = H9 at d9 ⊢
          try simp (disch := first | omega | (simp only [ints_length, List.length_replicate, List.length_set] <;> omega)) only [Sall,evalOp,init,binE,binI,unE,convE,okNil,builtE,gv,TD.isAgg,resV,↓reduceIte,Nat.reduceEqDiff,reduceCtorEq,Nat.reduceAdd,Nat.reduceMul,Nat.reduceLeDiff,quietOp,blindOp,Int.reduceEq,Int.reduceLT,Int.reduceLE,Nat.reduceLT,tiA,tiXA, awpTS_run_nil, awpTS_run_cons, awpTS_nil, awpTS_one, stepIS_op, loadOk, hu, nre, hw]
          refine (specRenumberPlayers_c p u _ w y H9 (by omega) (d9.rd2 1 rfl) hEv (d9.rd 3 rfl) hpl).mono ?_
          rintro rv Ha ⟨q, w', ll', rfl, hq, hll, oa⟩
          have da := d9.calls oa
          have hw' := (oa.rd2 0 rfl).one
          refine ⟨.inr (.inr (LE.les (oa.up.le d9.sc))), ?_⟩
          have g4 := da.rowAt 4 rfl
          try simp (disch := first | omega | (simp only [ints_length, List.length_replicate, List.length_set] <;> omega)) only [Sall,evalOp,init,binE,binI,unE,convE,okNil,builtE,gv,TD.isAgg,resV,↓reduceIte,Nat.reduceEqDiff,reduceCtorEq,Nat.reduceAdd,Nat.reduceMul,Nat.reduceLeDiff,quietOp,blindOp,Int.reduceEq,Int.reduceLT,Int.reduceLE,Nat.reduceLT,tiA,tiXA, awpTS_run_nil, awpTS_run_cons, awpTS_nil, awpTS_one, stepIS_op, loadOk, hw', g4]
          have db := da.putRow 4 rfl (cs' := [.int .i64 q.1, w'])
          exact ⟨.inr (.inl (by kernel_rfl)), _, q.1, w', ll', rfl, hq, hll, db.map fun B o => o.pick3 0 4 5 rfl rfl rfl (by omega) (by omega) (by omega)⟩
      · try simp (disch := first | omega | (simp only [ints_length, List.length_replicate, List.length_set] <;> omega)) only [Sall,evalOp,init,binE,binI,unE,convE,okNil,builtE,gv,TD.isAgg,resV,↓reduceIte,Nat.reduceEqDiff,reduceCtorEq,Nat.reduceAdd,Nat.reduceMul,Nat.reduceLeDiff,quietOp,blindOp,Int.reduceEq,Int.reduceLT,Int.reduceLE,Nat.reduceLT,tiA,tiXA, awpTS_run_nil, awpTS_run_cons, awpTS_nil, awpTS_one, stepIS_op, loadOk, hu, nre]
        have d8 := d7.push ⟨65, true, [.int .i64 0, .slice none 0 0]⟩
        refine ⟨.inr (.inr (LE.les (d7.sc.le _))), ?_⟩
        obtain ⟨rk, erk⟩ : ∃ rk, rk = H7.next := ⟨_, rfl⟩
        rw [← erk] at d8 ⊢
        generalize H7.push ⟨65, true, [.int .i64 0, .slice none 0 0]⟩ = H8 at d8 ⊢
        try simp (disch := first | omega | (simp only [ints_length, List.length_replicate, List.length_set] <;> omega)) only [Sall,evalOp,init,binE,binI,unE,convE,okNil,builtE,gv,TD.isAgg,resV,↓reduceIte,Nat.reduceEqDiff,reduceCtorEq,Nat.reduceAdd,Nat.reduceMul,Nat.reduceLeDiff,quietOp,blindOp,Int.reduceEq,Int.reduceLT,Int.reduceLE,Nat.reduceLT,tiA,tiXA, awpTS_run_nil, awpTS_run_cons, awpTS_nil, awpTS_one, stepIS_op, loadOk, hu, nre]
        refine (l01DrawOrder_c cv nb si p H8 (by omega) hnb (d8.src hsi) (d8.code hc hsc)).mono ?_
        rintro w H9 ⟨y, B8, k8, o8, hpl⟩
        rw [Int.toNat_natCast] at o8 hpl
        have d9 := d8.call hsi k8 o8
        have hw := o8.one 0 rfl
        refine ⟨.inr (.inr (les_of k8 o8 d8.sc)), ?_⟩
        try simp (disch := first | omega | (simp only [ints_length, List.length_replicate, List.length_set] <;> omega)) only [Sall,evalOp,init,binE,binI,unE,convE,okNil,builtE,gv,TD.isAgg,resV,↓reduceIte,Nat.reduceEqDiff,reduceCtorEq,Nat.reduceAdd,Nat.reduceMul,Nat.reduceLeDiff,quietOp,blindOp,Int.reduceEq,Int.reduceLT,Int.reduceLE,Nat.reduceLT,tiA,tiXA, awpTS_run_nil, awpTS_run_cons, awpTS_nil, awpTS_one, stepIS_op, loadOk, hu, nre, hw]
        refine (specRenumberPlayers_c p u _ w y H9 (by omega) (d9.rd2 1 rfl) hEv (d9.rd 4 rfl) hpl).mono ?_
        rintro rv Ha ⟨q, w', ll', rfl, hq, hll, oa⟩
        have da := d9.calls oa
        have hw' := (oa.rd2 0 rfl).one
        refine ⟨.inr (.inr (LE.les (oa.up.le d9.sc))), ?_⟩
        have g4 := da.rowAt 3 rfl
        try simp (disch := first | omega | (simp only [ints_length, List.length_replicate, List.length_set] <;> omega)) only [Sall,evalOp,init,binE,binI,unE,convE,okNil,builtE,gv,TD.isAgg,resV,↓reduceIte,Nat.reduceEqDiff,reduceCtorEq,Nat.reduceAdd,Nat.reduceMul,Nat.reduceLeDiff,quietOp,blindOp,Int.reduceEq,Int.reduceLT,Int.reduceLE,Nat.reduceLT,tiA,tiXA, awpTS_run_nil, awpTS_run_cons, awpTS_nil, awpTS_one, stepIS_op, loadOk, hw', g4]
        have db := da.putRow 3 rfl (cs' := [.int .i64 q.1, w'])
        exact ⟨.inr (.inl (by kernel_rfl)), _, q.1, w', ll', rfl, hq, hll, db.map fun B o => o.pick3 0 3 5 rfl rfl rfl (by omega) (by omega) (by omega)⟩
    · rintro t Hb ⟨rk, q, w, ll, h2, h7, hq, hll, db⟩
      have gk := db.rowAt 1 rfl
      have g0 := db.rowAt 0 rfl
      have hw := (db.rd2 2 rfl).one
      try simp (disch := first | omega | (simp only [ints_length, List.length_replicate, List.length_set] <;> omega)) only [Sall,evalOp,init,binE,binI,unE,convE,okNil,builtE,gv,TD.isAgg,resV,↓reduceIte,Nat.reduceEqDiff,reduceCtorEq,Nat.reduceAdd,Nat.reduceMul,Nat.reduceLeDiff,quietOp,blindOp,Int.reduceEq,Int.reduceLT,Int.reduceLE,Nat.reduceLT,tiA,tiXA, h2, h7, gk, g0, hw]
      obtain ⟨ws, dw⟩ := (db.putRow 0 rfl (cs' := [.int .i64 q, w])).sl2Rw 2 rfl
      exact ⟨q, w, ws, ll, rfl, hq, hll, dw⟩
  · have f0 : ((c : Int) == 0) = false := beq_eq_false_iff_ne.2 c0
    simp (config := {maxSteps := 3000000}) (disch := first | omega | (simp only [ints_length, List.length_replicate, List.length_set] <;> omega)) only [Sall,evalOp,init,binE,binI,unE,convE,okNil,builtE,gv,TD.isAgg,resV,↓reduceIte,Nat.reduceEqDiff,reduceCtorEq,Nat.reduceAdd,Nat.reduceMul,Nat.reduceLeDiff,quietOp,blindOp,Int.reduceEq,Int.reduceLT,Int.reduceLE,Nat.reduceLT,tiA,tiXA, f0]
    refine condB_cut (fun t H' => t 0 = .pointer (some ⟨si, 0, none⟩) ∧ t 2 = .pointer (some ⟨H.next, 0, none⟩) ∧ t 3 = .int .i64 n ∧ Dq cv nb si H H' [.row H.next ⟨65, true, [.int .i64 0, .slice none 0 0]⟩]) (fun _ => ?_) (fun _ => ?_) ?_
    · try simp (disch := first | omega | (simp only [ints_length, List.length_replicate, List.length_set] <;> omega)) only [Sall,evalOp,init,binE,binI,unE,convE,okNil,builtE,gv,TD.isAgg,resV,↓reduceIte,Nat.reduceEqDiff,reduceCtorEq,Nat.reduceAdd,Nat.reduceMul,Nat.reduceLeDiff,quietOp,blindOp,Int.reduceEq,Int.reduceLT,Int.reduceLE,Nat.reduceLT,tiA,tiXA, true_and]
      exact d2
    · have em : Int.tmod (n : Int) 4 = ((n % 4 : Nat) : Int) := rfl
      try simp (disch := first | omega | (simp only [ints_length, List.length_replicate, List.length_set] <;> omega)) only [Sall,evalOp,init,binE,binI,unE,convE,okNil,builtE,gv,TD.isAgg,resV,↓reduceIte,Nat.reduceEqDiff,reduceCtorEq,Nat.reduceAdd,Nat.reduceMul,Nat.reduceLeDiff,quietOp,blindOp,Int.reduceEq,Int.reduceLT,Int.reduceLE,Nat.reduceLT,tiA,tiXA, em, w64]
      refine condC_dec (fun h2 => ?_) (fun h2 => ?_)
      · have h2 : n % 4 < 2 := by omega
        try simp (disch := first | omega | (simp only [ints_length, List.length_replicate, List.length_set] <;> omega)) only [Sall,evalOp,init,binE,binI,unE,convE,okNil,builtE,gv,TD.isAgg,resV,↓reduceIte,Nat.reduceEqDiff,reduceCtorEq,Nat.reduceAdd,Nat.reduceMul,Nat.reduceLeDiff,quietOp,blindOp,Int.reduceEq,Int.reduceLT,Int.reduceLE,Nat.reduceLT,tiA,tiXA, em, w64]
        refine (l01DrawOrder_c cv nb si n H3 (by omega) hnb (d2.src hsi) (d2.code hc hsc)).mono ?_
        rintro w H4 ⟨y, B4, k4, o4, hpl⟩
        rw [Int.toNat_natCast] at o4 hpl
        have d3 := d2.call hsi k4 o4
        obtain ⟨cw, hcw, d5⟩ := (d3.toCap 1 rfl).cut 1 rfl (hi := some ((n : Int) - ((n % 4 : Nat) : Int))) (b := n - n % 4) (by simp only [Option.getD_some]; omega) (by omega)
        have hw := o4.one 0 rfl
        have g0 := d5.rowAt 0 rfl
        have hco := d5.capOne 1 rfl
        have hrd := (d5.capRs 1 rfl).rd
        have hyl := hpl.len
        have hytl : (y.take ((n - n % 4) * 1)).length = n - n % 4 := by rw [List.length_take]; omega
        refine Holds.mp ?_
        try simp (disch := first | omega | (simp only [ints_length, List.length_replicate, List.length_set] <;> omega)) only [Sall,evalOp,init,binE,binI,unE,convE,okNil,builtE,gv,TD.isAgg,resV,↓reduceIte,Nat.reduceEqDiff,reduceCtorEq,Nat.reduceAdd,Nat.reduceMul,Nat.reduceLeDiff,quietOp,blindOp,Int.reduceEq,Int.reduceLT,Int.reduceLE,Nat.reduceLT,tiA,tiXA, em, hw, w64]
        refine hcw _ _ _ _ rfl ?_
        try simp (disch := first | omega | (simp only [ints_length, List.length_replicate, List.length_set] <;> omega)) only [Sall,evalOp,init,binE,binI,unE,convE,okNil,builtE,gv,TD.isAgg,resV,↓reduceIte,Nat.reduceEqDiff,reduceCtorEq,Nat.reduceAdd,Nat.reduceMul,Nat.reduceLeDiff,quietOp,blindOp,Int.reduceEq,Int.reduceLT,Int.reduceLE,Nat.reduceLT,tiA,tiXA, em, hco, w64]
        refine (ACalls.scz (g := fun u => .agg #[.int .i64 (n : Int), u]) (l06Made_c n (by omega) cw (y.take ((n - n % 4) * 1)) H4 (by rw [hytl]; exact hrd) (by omega) (fun x hx => hpl.rng x (List.mem_of_mem_take hx)))).ex ?_
        rintro u H6 ⟨⟨up6, f6⟩, sc6⟩
        have d6 := d5.calls (Ow.of_fr2 up6 sc6 f6)
        have hu := (d6.rd2 2 rfl).one
        have g0 := d6.rowAt 0 rfl
        refine Holds.mp ?_
        try simp (disch := first | omega | (simp only [ints_length, List.length_replicate, List.length_set] <;> omega)) only [Sall,evalOp,init,binE,binI,unE,convE,okNil,builtE,gv,TD.isAgg,resV,↓reduceIte,Nat.reduceEqDiff,reduceCtorEq,Nat.reduceAdd,Nat.reduceMul,Nat.reduceLeDiff,quietOp,blindOp,Int.reduceEq,Int.reduceLT,Int.reduceLE,Nat.reduceLT,tiA,tiXA, hu, g0]
        obtain ⟨ws, dw⟩ := (d6.putRow 0 rfl (cs' := [.int .i64 n, u])).sl2Rw 2 rfl
        exact ⟨n, u, ws, _, rfl, ⟨by omega, by omega⟩, EvL.made (n := n) (by unfold mOf; omega) (by omega), dw⟩
      · try simp (disch := first | omega | (simp only [ints_length, List.length_replicate, List.length_set] <;> omega)) only [Sall,evalOp,init,binE,binI,unE,convE,okNil,builtE,gv,TD.isAgg,resV,↓reduceIte,Nat.reduceEqDiff,reduceCtorEq,Nat.reduceAdd,Nat.reduceMul,Nat.reduceLeDiff,quietOp,blindOp,Int.reduceEq,Int.reduceLT,Int.reduceLE,Nat.reduceLT,tiA,tiXA, true_and]
        exact d2
    · rintro t H4 ⟨h0, h2, h3, d3⟩
      have zz0 : zeros 0 [.slice none 0 0] = [] := rfl
      try simp (disch := first | omega | (simp only [ints_length, List.length_replicate, List.length_set] <;> omega)) only [Sall,evalOp,init,binE,binI,unE,convE,okNil,builtE,gv,TD.isAgg,resV,↓reduceIte,Nat.reduceEqDiff,reduceCtorEq,Nat.reduceAdd,Nat.reduceMul,Nat.reduceLeDiff,quietOp,blindOp,Int.reduceEq,Int.reduceLT,Int.reduceLE,Nat.reduceLT,tiA,tiXA, h0, h2, h3, zz0]
      have d4 := d3.map fun B o => ((((o.pushSl (k := 1) (n := 0) (ty := 38) (vs := []) rfl).push ⟨65, true, [.int .i64 0, .slice none 0 0]⟩).putRow 2 rfl (cs' := [.int .i64 n, .slice (some ⟨H4.next, 0, some 1⟩) 0 0])).addSee (Q := RowsOk [] []) RowsOk.nil)
      obtain ⟨ri, eri⟩ : ∃ ri, ri = H4.next + 1 := ⟨_, rfl⟩
      have d4 : Dq cv nb si H (((H4.push ⟨38, true, []⟩).push ⟨65, true, [.int .i64 0, .slice none 0 0]⟩).setCells (H4.next + 1) [.int .i64 n, .slice (some ⟨H4.next, 0, some 1⟩) 0 0]) [.row H.next ⟨65, true, [.int .i64 0, .slice none 0 0]⟩, .sl 1 38 (.slice (some ⟨H4.next, 0, some 1⟩) 0 0) 0 [], .row (H4.next + 1) ⟨65, true, [.int .i64 n, .slice (some ⟨H4.next, 0, some 1⟩) 0 0]⟩, .see (RowsOk [] [])] := d4
      have nri : ¬ ri = si := by have := d3.le; omega
      rw [← eri] at d4 ⊢
      obtain ⟨w0, ew0⟩ : ∃ w0, w0 = Value.slice (some ⟨H4.next, 0, some 1⟩) 0 0 := ⟨_, rfl⟩
      rw [← ew0] at d4 ⊢
      generalize ((H4.push ⟨38, true, []⟩).push ⟨65, true, [.int .i64 0, .slice none 0 0]⟩).setCells ri [.int .i64 n, w0] = H5 at d4 ⊢
      refine (nextD 5 d4 hsi hc hsc hnb (by omega)).ex ?_
      rintro k H6 ⟨hk, d5⟩
      have hk5 : k < 5 := by omega
      refine Holds.mp ?_
      try simp (disch := first | omega | (simp only [ints_length, List.length_replicate, List.length_set] <;> omega)) only [Sall,evalOp,init,binE,binI,unE,convE,okNil,builtE,gv,TD.isAgg,resV,↓reduceIte,Nat.reduceEqDiff,reduceCtorEq,Nat.reduceAdd,Nat.reduceMul,Nat.reduceLeDiff,quietOp,blindOp,Int.reduceEq,Int.reduceLT,Int.reduceLE,Nat.reduceLT,tiA,tiXA, h0, h2, h3]
      refine awp_loop (fun z t H' => ∃ (c m : Nat) (w : Value) (vs : List Value) (ll : List (List Int)), z = c ∧ m + c ≤ 4 ∧ t 10 = .int .i64 c ∧ t 0 = .pointer (some ⟨si, 0, none⟩) ∧ t 2 = .pointer (some ⟨H.next, 0, none⟩) ∧ t 3 = .int .i64 n ∧ t 9 = .pointer (some ⟨ri, 0, none⟩) ∧ ll.length = m ∧ (∀ r ∈ ll, r.length ≤ 64) ∧ Dq cv nb si H H' [.row H.next ⟨65, true, [.int .i64 0, .slice none 0 0]⟩, .sl 1 38 w m vs, .row ri ⟨65, true, [.int .i64 n, w]⟩, .see (RowsOk vs ll)]) k ?_ ?_
      · refine ⟨k, 0, w0, [], [], rfl, by omega, ?_⟩
        try simp (disch := first | omega | (simp only [ints_length, List.length_replicate, List.length_set] <;> omega)) only [Sall,evalOp,init,binE,binI,unE,convE,okNil,builtE,gv,TD.isAgg,resV,↓reduceIte,Nat.reduceEqDiff,reduceCtorEq,Nat.reduceAdd,Nat.reduceMul,Nat.reduceLeDiff,quietOp,blindOp,Int.reduceEq,Int.reduceLT,Int.reduceLE,Nat.reduceLT,tiA,tiXA, h0, h2, h3]
        exact ⟨fun r h => by simp at h, d5⟩
      · rintro z t H7 ⟨c, m, w, vs, ll, rfl, hmc, h10, h0, h2, h3, h9, hll, hlr, d6⟩
        try simp (disch := first | omega | (simp only [ints_length, List.length_replicate, List.length_set] <;> omega)) only [Sall,evalOp,init,binE,binI,unE,convE,okNil,builtE,gv,TD.isAgg,resV,↓reduceIte,Nat.reduceEqDiff,reduceCtorEq,Nat.reduceAdd,Nat.reduceMul,Nat.reduceLeDiff,quietOp,blindOp,Int.reduceEq,Int.reduceLT,Int.reduceLE,Nat.reduceLT,tiA,tiXA, h10]
        refine condC_dec (fun hh => ?_) (fun hh => ?_)
        · have g2 := d6.rowAt 2 rfl
          have hw := d6.one 1 rfl
          have ed : Int.tdiv (n : Int) 4 = ((n / 4 : Nat) : Int) := rfl
          try simp (disch := first | omega | (simp only [ints_length, List.length_replicate, List.length_set] <;> omega)) only [Sall,evalOp,init,binE,binI,unE,convE,okNil,builtE,gv,TD.isAgg,resV,↓reduceIte,Nat.reduceEqDiff,reduceCtorEq,Nat.reduceAdd,Nat.reduceMul,Nat.reduceLeDiff,quietOp,blindOp,Int.reduceEq,Int.reduceLT,Int.reduceLE,Nat.reduceLT,tiA,tiXA, true_and]
          refine draw_inS (fun j => j ≠ si) [0, 1, 2, 3, 5, 6, 7, 8, 4, 9, 10, 11, 12, 13, 14, 15] (by kernel_rfl) (by kernel_rfl) (by kernel_rfl) ?_
          try simp (disch := first | omega | (simp only [ints_length, List.length_replicate, List.length_set] <;> omega)) only [Sall,evalOp,init,binE,binI,unE,convE,okNil,builtE,gv,TD.isAgg,resV,↓reduceIte,Nat.reduceEqDiff,reduceCtorEq,Nat.reduceAdd,Nat.reduceMul,Nat.reduceLeDiff,quietOp,blindOp,Int.reduceEq,Int.reduceLT,Int.reduceLE,Nat.reduceLT,tiA,tiXA, awpIS_nil, awpIS_cons, stepIS_op, loadOk, h0, h3, h9, g2, hw, nri, ed, w64]
          refine (l01DrawOrder_c cv nb si n H7 (by omega) hnb (d6.src hsi) (d6.code hc hsc)).mono ?_
          rintro ov H8 ⟨y, B8, k8, o8, hpl⟩
          rw [Int.toNat_natCast] at o8 hpl
          have d7 := d6.call hsi k8 o8
          have hov := o8.one 0 rfl
          refine ⟨.inr (.inr (les_of k8 o8 d6.sc)), ?_⟩
          try simp (disch := first | omega | (simp only [ints_length, List.length_replicate, List.length_set] <;> omega)) only [Sall,evalOp,init,binE,binI,unE,convE,okNil,builtE,gv,TD.isAgg,resV,↓reduceIte,Nat.reduceEqDiff,reduceCtorEq,Nat.reduceAdd,Nat.reduceMul,Nat.reduceLeDiff,quietOp,blindOp,Int.reduceEq,Int.reduceLT,Int.reduceLE,Nat.reduceLT,tiA,tiXA, awpIS_nil, awpIS_cons, stepIS_op, loadOk, h0, h3, h9, hov, nri, ed, w64]
          refine (nextE (((n / 4 : Nat) : Int) + 1) d7 hsi hc hsc hnb (by omega)).ex ?_
          rintro x H9 ⟨hx, les9, d8⟩
          have hx4 : 4 * x ≤ n := by omega
          refine ⟨.inr (.inr les9), ?_⟩
          obtain ⟨cw, hcw, d9⟩ := (d8.toCap 4 rfl).cut 4 rfl (hi := some (4 * (x : Int))) (b := 4 * x) (by simp only [Option.getD_some]; omega) hx4
          have hco := d9.capOne 4 rfl
          try simp (disch := first | omega | (simp only [ints_length, List.length_replicate, List.length_set] <;> omega)) only [Sall,evalOp,init,binE,binI,unE,convE,okNil,builtE,gv,TD.isAgg,resV,↓reduceIte,Nat.reduceEqDiff,reduceCtorEq,Nat.reduceAdd,Nat.reduceMul,Nat.reduceLeDiff,quietOp,blindOp,Int.reduceEq,Int.reduceLT,Int.reduceLE,Nat.reduceLT,tiA,tiXA, awpIS_nil, awpIS_cons, stepIS_op, loadOk, nri, w64]
          refine hcw _ _ _ _ rfl ?_
          have hq1 := cells_of_one hco
          have hq2 := noTuple_of_one hco
          have hq3 := fun rr => ok_one (r := rr) hco
          have zz : zeros 1 [.slice none 0 0] = [.slice none 0 0] := rfl
          try simp (disch := first | omega | (simp only [ints_length, List.length_replicate, List.length_set] <;> omega)) only [Sall,evalOp,init,binE,binI,unE,convE,okNil,builtE,gv,TD.isAgg,resV,↓reduceIte,Nat.reduceEqDiff,reduceCtorEq,Nat.reduceAdd,Nat.reduceMul,Nat.reduceLeDiff,quietOp,blindOp,Int.reduceEq,Int.reduceLT,Int.reduceLE,Nat.reduceLT,tiA,tiXA, awpIS_nil, awpIS_cons, stepIS_op, loadOk, nri, hco, hq1, hq2, hq3, zz, slCells]
          refine ⟨.inr (.inr (LE.les (d9.sc.le _))), ?_⟩
          obtain ⟨B9, b9, o9⟩ := id d9.ex
          have hyt : (y.take (4 * x * 1)).length = 4 * x := by rw [List.length_take, hpl.len]; omega
          refine (o9.tmp ⟨38, true, [cw]⟩).app 1 rfl rfl (by omega) rfl (by omega) (by decide) (by omega) ?_
          intro v' Ha na oa
          have hv' := oa.one 1 rfl
          have ga := (oa.rowAt 2 rfl).1
          refine ⟨.inr (.inl (by kernel_rfl)), ?_⟩
          try simp (disch := first | omega | (simp only [ints_length, List.length_replicate, List.length_set] <;> omega)) only [Sall,evalOp,init,binE,binI,unE,convE,okNil,builtE,gv,TD.isAgg,resV,↓reduceIte,Nat.reduceEqDiff,reduceCtorEq,Nat.reduceAdd,Nat.reduceMul,Nat.reduceLeDiff,quietOp,blindOp,Int.reduceEq,Int.reduceLT,Int.reduceLE,Nat.reduceLT,tiA,tiXA, awpIS_nil, awpIS_cons, stepIS_op, loadOk, h0, h2, h3, h9, h10, nri, hv', ga, w64]
          have ob := oa.putRow 2 rfl (cs' := [.int .i64 n, v'])
          have oc := ob.addRow 3 4 (x := cw) (l := y.take (4 * x * 1)) rfl rfl (by omega) fun H S hp => by rw [hyt]; exact (cap_rs hp).rd
          refine ⟨.inr (.inl (by kernel_rfl)), ?_⟩
          refine ⟨z - 1, by omega, z - 1, m + 1, v', vs ++ [cw], ll ++ [y.take (4 * x * 1)], rfl, by omega, by omega, by simp [hll], fun r hr => ?_, ⟨⟨B9, b9, ?_⟩⟩⟩
          · rcases List.mem_append.1 hr with h | h
            · exact hlr r h
            · rw [List.mem_singleton] at h; rw [h]; omega
          · have od : Ow B9 (Ha.setCells ri [.int .i64 n, v']) ([.row H.next ⟨65, true, [.int .i64 0, .slice none 0 0]⟩, .sl 1 38 v' (m + 1) (vs ++ [cw]), .row ri ⟨65, true, [.int .i64 n, v']⟩, .see (RowsOk (vs ++ [cw]) (ll ++ [y.take (4 * x * 1)]))] ++ [.no]) := oc
            exact od.left
        · have g2 := d6.rowAt 2 rfl
          have g0 := d6.rowAt 0 rfl
          have hw := d6.one 1 rfl
          try simp (disch := first | omega | (simp only [ints_length, List.length_replicate, List.length_set] <;> omega)) only [Sall,evalOp,init,binE,binI,unE,convE,okNil,builtE,gv,TD.isAgg,resV,↓reduceIte,Nat.reduceEqDiff,reduceCtorEq,Nat.reduceAdd,Nat.reduceMul,Nat.reduceLeDiff,quietOp,blindOp,Int.reduceEq,Int.reduceLT,Int.reduceLE,Nat.reduceLT,tiA,tiXA, h2, h9, g2, g0, hw]
          exact ⟨n, w, vs, ll, rfl, ⟨by omega, by omega⟩, ⟨by omega, hlr⟩, (d6.putRow 0 rfl (cs' := [.int .i64 n, w])).map fun B o => o.toRw 1 3 rfl rfl (by omega)⟩
end Go.Proofs.Ytgkmdfjjlghecaa.A
end

section
set_option linter.unusedSimpArgs false
set_option linter.unusedVariables false
set_option maxRecDepth 100000
set_option maxHeartbeats 2000000
namespace Go.Proofs.Ytgkmdfjjlghecaa.A
open Go Go.Abs Go.RowKit

theorem Dq.seesX {cv : Value} {nb si : Nat} {H H' : AH} {L : List Th} (h : Dq cv nb si H H' L) (hsi : si < H.next) (k : Nat) {Q : AH → Prop} (hk : L[k]? = some (.see Q)) : ∀ H2, (∀ i r, H.next ≤ i → i ≠ si → H'.row i = some r → H2.row i = some r) → Q H2 := by
  obtain ⟨B, b, o⟩ := h.ex
  obtain ⟨S, hS, hp⟩ := o.at hk
  intro H2 h2
  exact hp H2 fun i r hi hr => h2 i r (by have := hS i hi; have := b.next; omega) (by have := hS i hi; have := b.next; omega) hr
theorem Dq.laterP {cv : Value} {nb si : Nat} {H H' : AH} {L : List Th} (h : Dq cv nb si H H' L) (hsi : si < H.next) (k : Nat) {p : Th} (hk : L[k]? = some p) : ∀ H2, (∀ i r, H.next ≤ i → i ≠ si → H'.row i = some r → H2.row i = some r) → ∃ S, p.p H2 S := by
  obtain ⟨B, b, o⟩ := h.ex
  obtain ⟨S, hS, hp⟩ := o.at hk
  intro H2 h2
  exact ⟨S, p.loc H' H2 S S (fun _ h => h) (fun i r hi hr => h2 i r (by have := hS i hi; have := b.next; omega) (by have := hS i hi; have := b.next; omega) hr) hp⟩
def BadE (lo : Nat) (cv : Value) (nb si : Nat) (H : AH) (v : Value) (H' : AH) : Prop :=
  ∃ (q : Int) (u : Value) (ll : List (List Int)), v = .agg #[.int .i64 q, u] ∧ (-1 ≤ q ∧ q ≤ 17) ∧ (ll.length ≤ 65 ∧ ∀ r ∈ ll, r.length ≤ 64) ∧ Dq cv nb si H H' [] ∧ ∀ H2, (∀ i r, lo ≤ i → i ≠ si → H'.row i = some r → H2.row i = some r) → Rd2 1 H2 u ll

theorem l06Bad_c (cv : Value) (nb si lo : Nat) (q : Int) (u : Value) (ws : List Value) (ll : List (List Int)) (H : AH) (hq : 0 ≤ q ∧ q ≤ 16) (hll : EvL ll) (hlo : lo ≤ H.next) (hv : ∀ H', (∀ i r, lo ≤ i → i ≠ si → H.row i = some r → H'.row i = some r) → Rw u ws ll H') (hnb : nb ≤ 4611686018427387904) (hs : Src cv nb si H) (hc : CodeX cv nb si H) :
    ACalls Try.prog 180 [.pointer (some ⟨si, 0, none⟩), .agg #[.int .i64 q, u]] H (BadE lo cv nb si H) := by
  refine ACalls.wf (by kernel_rfl) fun hsc => acalls_of_awp [.cell 4 65] Try.func180 (by kernel_rfl) rfl rfl (Nat.le_of_ble_eq_true rfl) (by kernel_rfl) ?_
  obtain ⟨_, _, hrow, _⟩ := id hs
  have hsi := hsc _ _ hrow
  clear hrow
  have hone := (hv H fun _ _ _ _ h => h).rd2.one
  have d0 := ((Dq.start hs hsc).push ⟨65, true, [.int .i64 q, u]⟩).push ⟨65, true, [.int .i64 0, .slice none 0 0]⟩
  have d0 : Dq cv nb si H ((H.push ⟨65, true, [.int .i64 q, u]⟩).push ⟨65, true, [.int .i64 0, .slice none 0 0]⟩) [.row H.next ⟨65, true, [.int .i64 q, u]⟩, .row (H.next + 1) ⟨65, true, [.int .i64 0, .slice none 0 0]⟩] := d0
  try simp (disch := first | omega | (simp only [ints_length, List.length_replicate, List.length_set] <;> omega)) only [Sall,evalOp,init,binE,binI,unE,convE,okNil,builtE,gv,TD.isAgg,resV,↓reduceIte,Nat.reduceEqDiff,reduceCtorEq,Nat.reduceAdd,Nat.reduceMul,Nat.reduceLeDiff,quietOp,blindOp,Int.reduceEq,Int.reduceLT,Int.reduceLE,Nat.reduceLT,tiA,tiXA, hone]
  obtain ⟨pi, epi⟩ : ∃ pi, pi = H.next := ⟨_, rfl⟩
  rw [← epi] at d0 ⊢
  have npi : ¬ pi = si := by omega
  generalize (H.push ⟨65, true, [.int .i64 q, u]⟩).push ⟨65, true, [.int .i64 0, .slice none 0 0]⟩ = H1 at d0 ⊢
  refine (nextD 30 d0 hsi hc hsc hnb (by omega)).ex ?_
  rintro c H2 ⟨hc3, d1⟩
  refine Holds.mp ?_
  have g0 := d1.rowAt 0 rfl
  have g1 := d1.rowAt 1 rfl
  have npp : ¬ pi = pi + 1 := by omega
  have npp2 : ¬ pi + 1 = pi := by omega
  by_cases c0 : (c : Int) = 0
  · have f0 : ((c : Int) == 0) = true := beq_iff_eq.2 c0
    have zz3 : zeros 3 [.int .i64 0] = [.int .i64 0, .int .i64 0, .int .i64 0] := rfl
    simp (config := {maxSteps := 3000000}) (disch := first | omega | (simp only [ints_length, List.length_replicate, List.length_set] <;> omega)) only [Sall,evalOp,init,binE,binI,unE,convE,okNil,builtE,gv,TD.isAgg,resV,↓reduceIte,Nat.reduceEqDiff,reduceCtorEq,Nat.reduceAdd,Nat.reduceMul,Nat.reduceLeDiff,quietOp,blindOp,Int.reduceEq,Int.reduceLT,Int.reduceLE,Nat.reduceLT,tiA,tiXA, f0, g0, g1, w64, zz3]
    refine (pickL [3, 17, q - 1] 3 rfl (by omega) (by omega) d1 hsi hc hsc hnb).ex ?_
    rintro p H3 ⟨hp, d2⟩
    have hp2 : -1 ≤ p ∧ p ≤ 17 := by
      simp only [List.mem_cons, List.not_mem_nil, or_false] at hp
      omega
    have g0' := d2.rowAt 0 rfl
    have g1' := d2.rowAt 1 rfl
    refine Holds.mp ?_
    try simp (disch := first | omega | (simp only [ints_length, List.length_replicate, List.length_set] <;> omega)) only [Sall,evalOp,init,binE,binI,unE,convE,okNil,builtE,gv,TD.isAgg,resV,↓reduceIte,Nat.reduceEqDiff,reduceCtorEq,Nat.reduceAdd,Nat.reduceMul,Nat.reduceLeDiff,quietOp,blindOp,Int.reduceEq,Int.reduceLT,Int.reduceLE,Nat.reduceLT,tiA,tiXA, g0', g1', hone, npp, npp2]
    have d3 := (d2.putRow 0 rfl (cs' := [.int .i64 p, u])).putRow 1 rfl (cs' := [.int .i64 p, u])
    exact ⟨p, u, ll, rfl, hp2, ⟨by have := hll.1; omega, hll.2⟩, Dq.left (L := []) d3, fun H2 h2 => (hv H2 fun i r hl hi hr => h2 i r hl hi (d3.old hsc i r hi hr)).rd2⟩
  · have f0 : ((c : Int) == 0) = false := beq_eq_false_iff_ne.2 c0
    by_cases c1 : (c : Int) = 1
    · have f1 : ((c : Int) == 1) = true := beq_iff_eq.2 c1
      have zz0 : zeros 0 [.slice none 0 0] = [] := rfl
      have d2 := d1.map fun B o => o.pushSl (k := 1) (n := 0) (ty := 38) (vs := []) rfl
      have hwl : ws.length = ll.length := (hv H fun _ _ _ _ h => h).1.1
      have hl64 := hll.1
      have hv2 := hv _ fun i r _ => d2.old hsc i r
      have npi2 : ¬ pi = H2.next := by obtain ⟨B, b, o⟩ := id d1.ex; have := (o.rowAt 0 rfl).2.2; omega
      simp (config := {maxSteps := 3000000}) (disch := first | omega | (simp only [ints_length, List.length_replicate, List.length_set] <;> omega)) only [Sall,evalOp,init,binE,binI,unE,convE,okNil,builtE,gv,TD.isAgg,resV,↓reduceIte,Nat.reduceEqDiff,reduceCtorEq,Nat.reduceAdd,Nat.reduceMul,Nat.reduceLeDiff,quietOp,blindOp,Int.reduceEq,Int.reduceLT,Int.reduceLE,Nat.reduceLT,tiA,tiXA, f0, f1, g0, g1, hone, npi2, w64, zz0]
      obtain ⟨B2, b2, o2⟩ := id d2.ex
      refine o2.appW 2 rfl hv2 rfl (by decide) (by omega) ?_
      intro v3 H3 n3 o3
      have o3 : Ow B2 H3 [.row pi ⟨65, true, [.int .i64 q, u]⟩, .row (pi + 1) ⟨65, true, [.int .i64 0, .slice none 0 0]⟩, .sl 1 38 v3 (0 + ws.length) ws] := o3
      have hv3 := o3.one 2 rfl
      have zi : zeros 3 [.int .i64 0] = [.int .i64 0, .int .i64 0, .int .i64 0] := rfl
      have zs1 : zeros 1 [.slice none 0 0] = [.slice none 0 0] := rfl
      have sp0 : splice ([.int .i64 0, .int .i64 0, .int .i64 0] : List Value) 0 [.int .i64 0] = [.int .i64 0, .int .i64 0, .int .i64 0] := rfl
      have sp1 : splice ([.int .i64 0, .int .i64 0, .int .i64 0] : List Value) 1 [.int .i64 1] = [.int .i64 0, .int .i64 1, .int .i64 0] := rfl
      have sp2 : splice ([.int .i64 0, .int .i64 1, .int .i64 0] : List Value) 2 [.int .i64 2] = [.int .i64 0, .int .i64 1, .int .i64 2] := rfl
      simp (config := {maxSteps := 3000000}) (disch := first | omega | (simp only [ints_length, List.length_replicate, List.length_set] <;> omega)) only [Sall,evalOp,init,binE,binI,unE,convE,okNil,builtE,gv,TD.isAgg,resV,↓reduceIte,Nat.reduceEqDiff,reduceCtorEq,Nat.reduceAdd,Nat.reduceMul,Nat.reduceLeDiff,quietOp,blindOp,Int.reduceEq,Int.reduceLT,Int.reduceLE,Nat.reduceLT,tiA,tiXA, hv3, zi, zs1, sp0, sp1, sp2, slCells]
      have o4 := o3.pushSl (k := 1) (n := 3) (ty := 2) (vs := ints [0, 1, 2]) rfl
      refine (o4.tmp ⟨38, true, [.slice (some ⟨H3.next, 0, some 1⟩) 3 3]⟩).app 2 rfl rfl (by omega) rfl (by omega) (by decide) (by omega) ?_
      intro v5 H5 n5 o5
      have hv5 := o5.one 2 rfl
      have h0 := (o5.rowAt 0 rfl).1
      have h1 := (o5.rowAt 1 rfl).1
      simp (config := {maxSteps := 3000000}) (disch := first | omega | (simp only [ints_length, List.length_replicate, List.length_set] <;> omega)) only [Sall,evalOp,init,binE,binI,unE,convE,okNil,builtE,gv,TD.isAgg,resV,↓reduceIte,Nat.reduceEqDiff,reduceCtorEq,Nat.reduceAdd,Nat.reduceMul,Nat.reduceLeDiff,quietOp,blindOp,Int.reduceEq,Int.reduceLT,Int.reduceLE,Nat.reduceLT,tiA,tiXA, hv3, hv5, h0, h1, npp, npp2]
      have d6 : Dq cv nb si H ((H5.setCells pi [.int .i64 q, v5]).setCells (pi + 1) [.int .i64 q, v5]) [.row pi ⟨65, true, [.int .i64 q, v5]⟩, .row (pi + 1) ⟨65, true, [.int .i64 q, v5]⟩, .sl 1 38 v5 (0 + ws.length + 1) (ws ++ [.slice (some ⟨H3.next, 0, some 1⟩) 3 3]), .sl 1 2 (.slice (some ⟨H3.next, 0, some 1⟩) 3 3) 3 (ints [0, 1, 2])] := ⟨⟨B2, b2, (o5.putRow 0 rfl (cs' := [.int .i64 q, v5])).putRow 1 rfl (cs' := [.int .i64 q, v5])⟩⟩
      refine ⟨q, v5, ll ++ [[0, 1, 2]], rfl, ⟨by omega, by omega⟩, ⟨by simp; omega, fun r hr => ?_⟩, Dq.left (L := []) d6, fun H2 h2 => ?_⟩
      · rcases List.mem_append.1 hr with h | h
        · exact hll.2 r h
        · rw [List.mem_singleton] at h; rw [h]; decide
      · obtain ⟨S1, p1⟩ := d6.laterP hsi 2 rfl H2 fun i r hl => h2 i r (by omega)
        obtain ⟨S2, p2⟩ := d6.laterP hsi 3 rfl H2 fun i r hl => h2 i r (by omega)
        exact RowsOk.rd2 ((hv H2 fun i r hl hi hr => h2 i r hl hi (d6.old hsc i r hi hr)).1.snoc (sl_rd p2)) p1
    · have f1 : ((c : Int) == 1) = false := beq_eq_false_iff_ne.2 c1
      by_cases c2 : (c : Int) = 2
      · have f2 : ((c : Int) == 2) = true := beq_iff_eq.2 c2
        have zz0 : zeros 0 [.slice none 0 0] = [] := rfl
        have d2 := d1.map fun B o => o.pushSl (k := 1) (n := 0) (ty := 38) (vs := []) rfl
        have hwl : ws.length = ll.length := (hv H fun _ _ _ _ h => h).1.1
        have hl64 := hll.1
        have hv2 := hv _ fun i r _ => d2.old hsc i r
        have npi2 : ¬ pi = H2.next := by obtain ⟨B, b, o⟩ := id d1.ex; have := (o.rowAt 0 rfl).2.2; omega
        simp (config := {maxSteps := 3000000}) (disch := first | omega | (simp only [ints_length, List.length_replicate, List.length_set] <;> omega)) only [Sall,evalOp,init,binE,binI,unE,convE,okNil,builtE,gv,TD.isAgg,resV,↓reduceIte,Nat.reduceEqDiff,reduceCtorEq,Nat.reduceAdd,Nat.reduceMul,Nat.reduceLeDiff,quietOp,blindOp,Int.reduceEq,Int.reduceLT,Int.reduceLE,Nat.reduceLT,tiA,tiXA, f0, f1, f2, g0, g1, hone, npi2, w64, zz0]
        obtain ⟨B2, b2, o2⟩ := id d2.ex
        refine o2.appW 2 rfl hv2 rfl (by decide) (by omega) ?_
        intro v3 H3 n3 o3
        have o3 : Ow B2 H3 [.row pi ⟨65, true, [.int .i64 q, u]⟩, .row (pi + 1) ⟨65, true, [.int .i64 0, .slice none 0 0]⟩, .sl 1 38 v3 (0 + ws.length) ws] := o3
        have hv3 := o3.one 2 rfl
        have zi : zeros 4 [.int .i64 0] = [.int .i64 0, .int .i64 0, .int .i64 0, .int .i64 0] := rfl
        have zs1 : zeros 1 [.slice none 0 0] = [.slice none 0 0] := rfl
        have sp0 : splice ([.int .i64 0, .int .i64 0, .int .i64 0, .int .i64 0] : List Value) 0 [.int .i64 0] = [.int .i64 0, .int .i64 0, .int .i64 0, .int .i64 0] := rfl
        have sp1 : splice ([.int .i64 0, .int .i64 0, .int .i64 0, .int .i64 0] : List Value) 1 [.int .i64 1] = [.int .i64 0, .int .i64 1, .int .i64 0, .int .i64 0] := rfl
        have sp2 : splice ([.int .i64 0, .int .i64 1, .int .i64 0, .int .i64 0] : List Value) 2 [.int .i64 2] = [.int .i64 0, .int .i64 1, .int .i64 2, .int .i64 0] := rfl
        have sp3 : splice ([.int .i64 0, .int .i64 1, .int .i64 2, .int .i64 0] : List Value) 3 [.int .i64 2] = [.int .i64 0, .int .i64 1, .int .i64 2, .int .i64 2] := rfl
        simp (config := {maxSteps := 3000000}) (disch := first | omega | (simp only [ints_length, List.length_replicate, List.length_set] <;> omega)) only [Sall,evalOp,init,binE,binI,unE,convE,okNil,builtE,gv,TD.isAgg,resV,↓reduceIte,Nat.reduceEqDiff,reduceCtorEq,Nat.reduceAdd,Nat.reduceMul,Nat.reduceLeDiff,quietOp,blindOp,Int.reduceEq,Int.reduceLT,Int.reduceLE,Nat.reduceLT,tiA,tiXA, hv3, zi, zs1, sp0, sp1, sp2, sp3, slCells]
        have o4 := o3.pushSl (k := 1) (n := 4) (ty := 2) (vs := ints [0, 1, 2, 2]) rfl
        refine (o4.tmp ⟨38, true, [.slice (some ⟨H3.next, 0, some 1⟩) 4 4]⟩).app 2 rfl rfl (by omega) rfl (by omega) (by decide) (by omega) ?_
        intro v5 H5 n5 o5
        have hv5 := o5.one 2 rfl
        have h0 := (o5.rowAt 0 rfl).1
        have h1 := (o5.rowAt 1 rfl).1
        simp (config := {maxSteps := 3000000}) (disch := first | omega | (simp only [ints_length, List.length_replicate, List.length_set] <;> omega)) only [Sall,evalOp,init,binE,binI,unE,convE,okNil,builtE,gv,TD.isAgg,resV,↓reduceIte,Nat.reduceEqDiff,reduceCtorEq,Nat.reduceAdd,Nat.reduceMul,Nat.reduceLeDiff,quietOp,blindOp,Int.reduceEq,Int.reduceLT,Int.reduceLE,Nat.reduceLT,tiA,tiXA, hv3, hv5, h0, h1, npp, npp2]
        have d6 : Dq cv nb si H ((H5.setCells pi [.int .i64 q, v5]).setCells (pi + 1) [.int .i64 q, v5]) [.row pi ⟨65, true, [.int .i64 q, v5]⟩, .row (pi + 1) ⟨65, true, [.int .i64 q, v5]⟩, .sl 1 38 v5 (0 + ws.length + 1) (ws ++ [.slice (some ⟨H3.next, 0, some 1⟩) 4 4]), .sl 1 2 (.slice (some ⟨H3.next, 0, some 1⟩) 4 4) 4 (ints [0, 1, 2, 2])] := ⟨⟨B2, b2, (o5.putRow 0 rfl (cs' := [.int .i64 q, v5])).putRow 1 rfl (cs' := [.int .i64 q, v5])⟩⟩
        refine ⟨q, v5, ll ++ [[0, 1, 2, 2]], rfl, ⟨by omega, by omega⟩, ⟨by simp; omega, fun r hr => ?_⟩, Dq.left (L := []) d6, fun H2 h2 => ?_⟩
        · rcases List.mem_append.1 hr with h | h
          · exact hll.2 r h
          · rw [List.mem_singleton] at h; rw [h]; decide
        · obtain ⟨S1, p1⟩ := d6.laterP hsi 2 rfl H2 fun i r hl => h2 i r (by omega)
          obtain ⟨S2, p2⟩ := d6.laterP hsi 3 rfl H2 fun i r hl => h2 i r (by omega)
          exact RowsOk.rd2 ((hv H2 fun i r hl hi hr => h2 i r hl hi (d6.old hsc i r hi hr)).1.snoc (sl_rd p2)) p1
      · have f2 : ((c : Int) == 2) = false := beq_eq_false_iff_ne.2 c2
        simp (config := {maxSteps := 3000000}) (disch := first | omega | (simp only [ints_length, List.length_replicate, List.length_set] <;> omega)) only [Sall,evalOp,init,binE,binI,unE,convE,okNil,builtE,gv,TD.isAgg,resV,↓reduceIte,Nat.reduceEqDiff,reduceCtorEq,Nat.reduceAdd,Nat.reduceMul,Nat.reduceLeDiff,quietOp,blindOp,Int.reduceEq,Int.reduceLT,Int.reduceLE,Nat.reduceLT,tiA,tiXA, f0, f1, f2, g0, g1, hone, npp, npp2]
        have d3 := d1.putRow 1 rfl (cs' := [.int .i64 q, u])
        exact ⟨q, u, ll, rfl, ⟨by omega, by omega⟩, ⟨by have := hll.1; omega, hll.2⟩, Dq.left (L := []) d3, fun H2 h2 => (hv H2 fun i r hl hi hr => h2 i r hl hi (d3.old hsc i r hi hr)).rd2⟩
end Go.Proofs.Ytgkmdfjjlghecaa.A
end

section
set_option linter.unusedSimpArgs false
set_option linter.unusedVariables false
set_option maxRecDepth 100000
set_option maxHeartbeats 2000000
namespace Go.Proofs.Ytgkmdfjjlghecaa.A
open Go Go.Abs Go.RowKit

theorem Dq.lowEq {cv : Value} {nb si : Nat} {H H' : AH} {L : List Th} (h : Dq cv nb si H H' L) {i : Nat} (hi : i < H.next) (hs : i ≠ si) : H'.row i = H.row i := by
  obtain ⟨B, b, o⟩ := h.ex
  rw [o.low i (by rw [b.next]; exact hi), b.row i hs]
theorem Dq.shift {cv : Value} {nb si : Nat} {H H' : AH} {L : List Th} (h : Dq cv nb si H H' L) {i : Nat} (hi : i < H.next) (cs : List Value) : ∃ B, B.next = H.next ∧ Ow B (H'.setCells i cs) L := by
  obtain ⟨B, b, o⟩ := h.ex
  have hb := b.next
  refine ⟨⟨B.next, fun j => (H'.setCells i cs).row j⟩, hb, o.sc.set _ _, o.next, fun j hj => rfl, ?_⟩
  obtain ⟨w, hw⟩ := o.own
  refine ⟨w, fun k p hk => p.loc H' _ _ _ (fun j hj => hj) (fun j r hj hr => ?_) (hw k p hk)⟩
  have : B.next ≤ j := hj.1
  rw [AH.setCells_row, if_neg (by omega)]; exact hr

theorem Rs.later {z n : Nat} {H H' : AH} {v : Value} {l : List Int} (h : Rs z H v n l) (hs : ∀ i r, H.row i = some r → H'.row i = some r) : Rs z H' v n l := h.same hs

end Go.Proofs.Ytgkmdfjjlghecaa.A
end

section
set_option linter.unusedSimpArgs false
set_option linter.unusedVariables false
set_option maxRecDepth 100000
set_option maxHeartbeats 2000000
namespace Go.Proofs.Ytgkmdfjjlghecaa.A
open Go Go.Abs Go.RowKit

def WithE (H : AH) (p : Int × Value) (H' : AH) : Prop :=
  ∃ ll : List (List Int), (-1 ≤ p.1 ∧ p.1 ≤ 17) ∧ (ll.length ≤ 65 ∧ ∀ r ∈ ll, r.length ≤ 64) ∧ (∀ H2, (∀ i r, H.next ≤ i → H'.row i = some r → H2.row i = some r) → Rd2 1 H2 p.2 ll) ∧ Ow H H' []
theorem codeUp {cv : Value} {nb : Nat} {H H' : AH} (h : CodeOk H cv nb) (k : ∀ i r, H.row i = some r → H'.row i = some r) : CodeOk H' cv nb := by
  rcases h with h | ⟨i, o, u, c, r, q1, q2, q3⟩
  · exact .inl h
  · exact .inr ⟨i, o, u, c, r, q1, k _ _ q2, q3⟩

theorem ACalls.ex3 {P : Program} {f : FuncId} {args : List Value} {H : AH} {α β γ : Type} {g : α → β → γ → Value} {X : α → β → γ → AH → Prop} {R : Value → AH → Prop} (h : ACalls P f args H (fun v H' => ∃ a b c, v = g a b c ∧ X a b c H')) (k : ∀ a b c H', X a b c H' → R (g a b c) H') : ACalls P f args H R :=
  h.mono fun v H' hh => by obtain ⟨a, b, c, rfl, hx⟩ := hh; exact k _ _ _ _ hx

theorem l06Draw_c (cv : Value) (nb : Nat) (H : AH) (hnb : nb ≤ 4611686018427387904) (hc0 : CodeOk H cv nb) :
    ACalls Try.prog 113 [cv] H (fun r H' => ∃ p : Int × Value, r = .agg #[.int .i64 p.1, p.2] ∧ WithE H p H') := by
  refine ACalls.wf (by kernel_rfl) fun hsc0 => acalls_of_awp [.cell 2 65] Try.func113 (by kernel_rfl) rfl rfl (Nat.le_of_ble_eq_true rfl) (by kernel_rfl) ?_
  have o1 := (Ow.refl hsc0).push ⟨65, true, [.int .i64 0, .slice none 0 0]⟩
  have hone := hc0.one
  have b0 := (o1.rowAt 0 rfl)
  try simp (disch := first | omega | (simp only [ints_length, List.length_replicate, List.length_set] <;> omega)) only [Sall,evalOp,init,binE,binI,unE,convE,okNil,builtE,gv,TD.isAgg,resV,↓reduceIte,Nat.reduceEqDiff,reduceCtorEq,Nat.reduceAdd,Nat.reduceMul,Nat.reduceLeDiff,quietOp,blindOp,Int.reduceEq,Int.reduceLT,Int.reduceLE,Nat.reduceLT,tiA,tiXA, hone]
  generalize H.push ⟨65, true, [.int .i64 0, .slice none 0 0]⟩ = H1 at o1 b0 ⊢
  have hc1 : CodeOk H1 cv nb := codeUp hc0 (o1.old hsc0)
  refine (l01From_c cv nb H1 hnb hc1).fin ?_
  rintro H2 ⟨up2, hsc, hsi, hs⟩
  have hc := CodeX.of hc1 o1.sc up2
  refine Holds.mp ?_
  try simp (disch := first | omega | (simp only [ints_length, List.length_replicate, List.length_set] <;> omega)) only [Sall,evalOp,init,binE,binI,unE,convE,okNil,builtE,gv,TD.isAgg,resV,↓reduceIte,Nat.reduceEqDiff,reduceCtorEq,Nat.reduceAdd,Nat.reduceMul,Nat.reduceLeDiff,quietOp,blindOp,Int.reduceEq,Int.reduceLT,Int.reduceLE,Nat.reduceLT,tiA,tiXA, true_and]
  refine ACalls.ex4 (g := fun (q : Int) (u : Value) (_ : List Value) (_ : List (List Int)) => .agg #[.int .i64 q, u]) (l06DrawOf_c cv nb H1.next H2 hnb hs hc) ?_
  rintro q u ws ll H3 ⟨hq, hll, d1⟩
  have hv := d1.seesX hsi 0 rfl
  have hu := (hv H3 fun _ _ _ _ h => h).rd2.one
  refine Holds.mp ?_
  try simp (disch := first | omega | (simp only [ints_length, List.length_replicate, List.length_set] <;> omega)) only [Sall,evalOp,init,binE,binI,unE,convE,okNil,builtE,gv,TD.isAgg,resV,↓reduceIte,Nat.reduceEqDiff,reduceCtorEq,Nat.reduceAdd,Nat.reduceMul,Nat.reduceLeDiff,quietOp,blindOp,Int.reduceEq,Int.reduceLT,Int.reduceLE,Nat.reduceLT,tiA,tiXA, hu]
  refine ACalls.ex3 (g := fun (q : Int) (u : Value) (_ : List (List Int)) => .agg #[.int .i64 q, u]) (l06Bad_c cv nb H1.next H2.next q u ws ll H3 hq hll d1.le hv hnb (d1.src hsi) (d1.code hc hsc)) ?_
  rintro q' u' ll' H4 ⟨hq', hll', d2, hr⟩
  have d3 := d1.bind hsi d2
  have hu' := (hr H4 fun _ _ _ _ h => h).one
  have g0 : H4.row H.next = some ⟨65, true, [.int .i64 0, .slice none 0 0]⟩ := by
    rw [d3.lowEq (by omega) (by omega), up2.row _ (by omega)]; exact b0.1
  refine Holds.mp ?_
  try simp (disch := first | omega | (simp only [ints_length, List.length_replicate, List.length_set] <;> omega)) only [Sall,evalOp,init,binE,binI,unE,convE,okNil,builtE,gv,TD.isAgg,resV,↓reduceIte,Nat.reduceEqDiff,reduceCtorEq,Nat.reduceAdd,Nat.reduceMul,Nat.reduceLeDiff,quietOp,blindOp,Int.reduceEq,Int.reduceLT,Int.reduceLE,Nat.reduceLT,tiA,tiXA, hu', g0]
  have hle := d3.le
  refine ⟨(q', u'), rfl, ll', hq', hll', fun Hx hx => hr Hx fun i r hl hi hr => hx i r (by omega) ?_, Ow.of_up ⟨by show H.next ≤ H4.next; omega, fun i hi => ?_⟩ (d3.sc.set _ _)⟩
  · rw [AH.setCells_row, if_neg (by omega)]; exact hr
  · rw [AH.setCells_row, if_neg (by omega), d3.lowEq (by omega) (by omega), up2.row _ (by omega), o1.low _ hi]

theorem drawOpponentsIn_c (cv : Value) (nb : Nat) (H : AH) (hnb : nb ≤ 4611686018427387904) (hc0 : CodeOk H cv nb) :
    ACalls Try.prog 39 [cv] H (fun r H' => ∃ p : Int × (Int × Value), r = .tuple #[.agg #[.int .i64 p.2.1, p.2.2], .int .i64 p.1] ∧ (-4611686018427387904 ≤ p.1 ∧ p.1 ≤ 1099511627776) ∧ WithE H p.2 H') := by
  refine ACalls.wf (by kernel_rfl) fun hsc0 => acalls_of_awp [.cell 2 65, .tmp 3] Try.func39 (by kernel_rfl) rfl rfl (Nat.le_of_ble_eq_true rfl) (by kernel_rfl) ?_
  have o1 := (Ow.refl hsc0).push ⟨65, true, [.int .i64 0, .slice none 0 0]⟩
  have hone := hc0.one
  have b0 := (o1.rowAt 0 rfl)
  try simp (disch := first | omega | (simp only [ints_length, List.length_replicate, List.length_set] <;> omega)) only [Sall,evalOp,init,binE,binI,unE,convE,okNil,builtE,gv,TD.isAgg,resV,↓reduceIte,Nat.reduceEqDiff,reduceCtorEq,Nat.reduceAdd,Nat.reduceMul,Nat.reduceLeDiff,quietOp,blindOp,Int.reduceEq,Int.reduceLT,Int.reduceLE,Nat.reduceLT,tiA,tiXA, hone]
  generalize H.push ⟨65, true, [.int .i64 0, .slice none 0 0]⟩ = H1 at o1 b0 ⊢
  have hc1 : CodeOk H1 cv nb := codeUp hc0 (o1.old hsc0)
  refine (l01From_c cv nb H1 hnb hc1).fin ?_
  rintro H2 ⟨up2, hsc, hsi, hs⟩
  have hc := CodeX.of hc1 o1.sc up2
  refine Holds.mp ?_
  try simp (disch := first | omega | (simp only [ints_length, List.length_replicate, List.length_set] <;> omega)) only [Sall,evalOp,init,binE,binI,unE,convE,okNil,builtE,gv,TD.isAgg,resV,↓reduceIte,Nat.reduceEqDiff,reduceCtorEq,Nat.reduceAdd,Nat.reduceMul,Nat.reduceLeDiff,quietOp,blindOp,Int.reduceEq,Int.reduceLT,Int.reduceLE,Nat.reduceLT,tiA,tiXA, hone]
  refine (l06Draw_c cv nb H2 hnb hc.now).ex ?_
  rintro ⟨q, u⟩ H3 ⟨ll, hq, hll, hr, o3⟩
  dsimp only at hq hr
  have hu := (hr H3 fun _ _ _ h => h).one
  have d1 := ((((Dq.start hs hsc).calls o3).push ⟨65, true, [.int .i64 0, .slice none 0 0]⟩).putRow 0 rfl (cs' := [.int .i64 q, u]))
  have b3 := o3.next
  have hr4 : ∀ Hx, (∀ i r, H2.next ≤ i → ((H3.push ⟨65, true, [.int .i64 0, .slice none 0 0]⟩).setCells H3.next [.int .i64 q, u]).row i = some r → Hx.row i = some r) → Rd2 1 Hx u ll := fun Hx hx => hr Hx fun i r hi hr => hx i r hi (by
    have := o3.sc _ _ hr
    rw [AH.setCells_row, if_neg (by omega), AH.push_row, if_neg (by omega)]; exact hr)
  obtain ⟨ri, eri⟩ : ∃ ri, ri = H3.next := ⟨_, rfl⟩
  refine Holds.mp ?_
  try simp (disch := first | omega | (simp only [ints_length, List.length_replicate, List.length_set] <;> omega)) only [Sall,evalOp,init,binE,binI,unE,convE,okNil,builtE,gv,TD.isAgg,resV,↓reduceIte,Nat.reduceEqDiff,reduceCtorEq,Nat.reduceAdd,Nat.reduceMul,Nat.reduceLeDiff,quietOp,blindOp,Int.reduceEq,Int.reduceLT,Int.reduceLE,Nat.reduceLT,tiA,tiXA, hu]
  have d1 : Dq cv nb H1.next H2 ((H3.push ⟨65, true, [.int .i64 0, .slice none 0 0]⟩).setCells H3.next [.int .i64 q, u]) [.row H3.next ⟨65, true, [.int .i64 q, u]⟩] := d1
  rw [← eri] at d1 hr4 ⊢
  generalize (H3.push ⟨65, true, [.int .i64 0, .slice none 0 0]⟩).setCells ri [.int .i64 q, u] = H4 at d1 hr4 ⊢
  have g1 := d1.rowAt 0 rfl
  have nri : ¬ ri = H1.next := by have := b3; omega
  have nh : ¬ H.next = H1.next := by omega
  refine draw_inS (fun j => j ≠ H1.next) [0, 1, 2, 3, 4] (by kernel_rfl) (by kernel_rfl) (by kernel_rfl) ?_
  try simp (disch := first | omega | (simp only [ints_length, List.length_replicate, List.length_set] <;> omega)) only [Sall,evalOp,init,binE,binI,unE,convE,okNil,builtE,gv,TD.isAgg,resV,↓reduceIte,Nat.reduceEqDiff,reduceCtorEq,Nat.reduceAdd,Nat.reduceMul,Nat.reduceLeDiff,quietOp,blindOp,Int.reduceEq,Int.reduceLT,Int.reduceLE,Nat.reduceLT,tiA,tiXA, awpIS_nil, awpIS_cons, stepIS_op, loadOk, g1, hu, nri]
  refine (l01Near_c cv nb H1.next 2 H4 (by omega) hnb (d1.src hsi) (d1.code hc hsc) d1.sc).ex ?_
  rintro a H5 ⟨a1, a2, B5, b5, o5⟩
  have d2 := d1.call hsi b5 o5
  have g0 : H5.row H.next = some ⟨65, true, [.int .i64 0, .slice none 0 0]⟩ := by
    rw [d2.lowEq (by omega) (by omega), up2.row _ (by omega)]; exact b0.1
  refine ⟨.inr (.inr (les_of b5 o5 d1.sc)), ?_⟩
  try simp (disch := first | omega | (simp only [ints_length, List.length_replicate, List.length_set] <;> omega)) only [Sall,evalOp,init,binE,binI,unE,convE,okNil,builtE,gv,TD.isAgg,resV,↓reduceIte,Nat.reduceEqDiff,reduceCtorEq,Nat.reduceAdd,Nat.reduceMul,Nat.reduceLeDiff,quietOp,blindOp,Int.reduceEq,Int.reduceLT,Int.reduceLE,Nat.reduceLT,tiA,tiXA, awpIS_nil, awpIS_cons, stepIS_op, loadOk, hu, g0, nh]
  have hle := d2.le
  have k5 : ∀ i r, i ≠ H1.next → H4.row i = some r → H5.row i = some r := fun i r hi hr => by
    rw [o5.low i (by have := d1.sc _ _ hr; have := b5.next; omega), b5.row i hi]; exact hr
  refine ⟨.inr (.inl (by kernel_rfl)), (a, (q, u)), rfl, ⟨a1, a2⟩, ll, hq, hll, fun Hx hx => hr4 Hx fun i r hi hr => hx i r (by omega) ?_, Ow.of_up ⟨by show H.next ≤ H5.next; omega, fun i hi => ?_⟩ (d2.sc.set _ _)⟩
  · rw [AH.setCells_row, if_neg (by omega)]; exact k5 i r (by omega) hr
  · rw [AH.setCells_row, if_neg (by omega), d2.lowEq (by omega) (by omega), up2.row _ (by omega), o1.low _ hi]
theorem drawSittingOut_c (cv : Value) (nb : Nat) (H : AH) (hnb : nb ≤ 4611686018427387904) (hc0 : CodeOk H cv nb) :
    ACalls Try.prog 45 [cv] H (fun r H' => ∃ p : Int × (Int × Value), r = .tuple #[.agg #[.int .i64 p.2.1, p.2.2], .int .i64 p.1] ∧ (-4611686018427387904 ≤ p.1 ∧ p.1 ≤ 1099511627776) ∧ WithE H p.2 H') := by
  refine ACalls.wf (by kernel_rfl) fun hsc0 => acalls_of_awp [.cell 2 65, .tmp 3] Try.func45 (by kernel_rfl) rfl rfl (Nat.le_of_ble_eq_true rfl) (by kernel_rfl) ?_
  have o1 := (Ow.refl hsc0).push ⟨65, true, [.int .i64 0, .slice none 0 0]⟩
  have hone := hc0.one
  have b0 := (o1.rowAt 0 rfl)
  try simp (disch := first | omega | (simp only [ints_length, List.length_replicate, List.length_set] <;> omega)) only [Sall,evalOp,init,binE,binI,unE,convE,okNil,builtE,gv,TD.isAgg,resV,↓reduceIte,Nat.reduceEqDiff,reduceCtorEq,Nat.reduceAdd,Nat.reduceMul,Nat.reduceLeDiff,quietOp,blindOp,Int.reduceEq,Int.reduceLT,Int.reduceLE,Nat.reduceLT,tiA,tiXA, hone]
  generalize H.push ⟨65, true, [.int .i64 0, .slice none 0 0]⟩ = H1 at o1 b0 ⊢
  have hc1 : CodeOk H1 cv nb := codeUp hc0 (o1.old hsc0)
  refine (l01From_c cv nb H1 hnb hc1).fin ?_
  rintro H2 ⟨up2, hsc, hsi, hs⟩
  have hc := CodeX.of hc1 o1.sc up2
  refine Holds.mp ?_
  try simp (disch := first | omega | (simp only [ints_length, List.length_replicate, List.length_set] <;> omega)) only [Sall,evalOp,init,binE,binI,unE,convE,okNil,builtE,gv,TD.isAgg,resV,↓reduceIte,Nat.reduceEqDiff,reduceCtorEq,Nat.reduceAdd,Nat.reduceMul,Nat.reduceLeDiff,quietOp,blindOp,Int.reduceEq,Int.reduceLT,Int.reduceLE,Nat.reduceLT,tiA,tiXA, hone]
  refine (l06Draw_c cv nb H2 hnb hc.now).ex ?_
  rintro ⟨q, u⟩ H3 ⟨ll, hq, hll, hr, o3⟩
  dsimp only at hq hr
  have hu := (hr H3 fun _ _ _ h => h).one
  have d1 := ((((Dq.start hs hsc).calls o3).push ⟨65, true, [.int .i64 0, .slice none 0 0]⟩).putRow 0 rfl (cs' := [.int .i64 q, u]))
  have b3 := o3.next
  have hr4 : ∀ Hx, (∀ i r, H2.next ≤ i → ((H3.push ⟨65, true, [.int .i64 0, .slice none 0 0]⟩).setCells H3.next [.int .i64 q, u]).row i = some r → Hx.row i = some r) → Rd2 1 Hx u ll := fun Hx hx => hr Hx fun i r hi hr => hx i r hi (by
    have := o3.sc _ _ hr
    rw [AH.setCells_row, if_neg (by omega), AH.push_row, if_neg (by omega)]; exact hr)
  obtain ⟨ri, eri⟩ : ∃ ri, ri = H3.next := ⟨_, rfl⟩
  refine Holds.mp ?_
  try simp (disch := first | omega | (simp only [ints_length, List.length_replicate, List.length_set] <;> omega)) only [Sall,evalOp,init,binE,binI,unE,convE,okNil,builtE,gv,TD.isAgg,resV,↓reduceIte,Nat.reduceEqDiff,reduceCtorEq,Nat.reduceAdd,Nat.reduceMul,Nat.reduceLeDiff,quietOp,blindOp,Int.reduceEq,Int.reduceLT,Int.reduceLE,Nat.reduceLT,tiA,tiXA, hu]
  have d1 : Dq cv nb H1.next H2 ((H3.push ⟨65, true, [.int .i64 0, .slice none 0 0]⟩).setCells H3.next [.int .i64 q, u]) [.row H3.next ⟨65, true, [.int .i64 q, u]⟩] := d1
  rw [← eri] at d1 hr4 ⊢
  generalize (H3.push ⟨65, true, [.int .i64 0, .slice none 0 0]⟩).setCells ri [.int .i64 q, u] = H4 at d1 hr4 ⊢
  have g1 := d1.rowAt 0 rfl
  have nri : ¬ ri = H1.next := by have := b3; omega
  have nh : ¬ H.next = H1.next := by omega
  refine draw_inS (fun j => j ≠ H1.next) [0, 1, 2, 3, 4, 5, 6, 7, 8, 9] (by kernel_rfl) (by kernel_rfl) (by kernel_rfl) ?_
  have lu := (hr4 H4 fun _ _ _ h => h).len
  have l65 := hll.1
  try simp (disch := first | omega | (simp only [ints_length, List.length_replicate, List.length_set] <;> omega)) only [Sall,evalOp,init,binE,binI,unE,convE,okNil,builtE,gv,TD.isAgg,resV,↓reduceIte,Nat.reduceEqDiff,reduceCtorEq,Nat.reduceAdd,Nat.reduceMul,Nat.reduceLeDiff,quietOp,blindOp,Int.reduceEq,Int.reduceLT,Int.reduceLE,Nat.reduceLT,tiA,tiXA, awpIS_nil, awpIS_cons, stepIS_op, loadOk, g1, hu, nri, builtE, lu, w64]
  refine ⟨.inr (.inr (LE.les (LE.refl _))), ?_⟩
  try simp (disch := first | omega | (simp only [ints_length, List.length_replicate, List.length_set] <;> omega)) only [Sall,evalOp,init,binE,binI,unE,convE,okNil,builtE,gv,TD.isAgg,resV,↓reduceIte,Nat.reduceEqDiff,reduceCtorEq,Nat.reduceAdd,Nat.reduceMul,Nat.reduceLeDiff,quietOp,blindOp,Int.reduceEq,Int.reduceLT,Int.reduceLE,Nat.reduceLT,tiA,tiXA, awpIS_nil, awpIS_cons, stepIS_op, loadOk, g1, hu, nri, builtE, lu, w64]
  refine (l01Near_c cv nb H1.next _ H4 (by split <;> omega) hnb (d1.src hsi) (d1.code hc hsc) d1.sc).ex ?_
  rintro a H5 ⟨a1, a2, B5, b5, o5⟩
  have d2 := d1.call hsi b5 o5
  have g0 : H5.row H.next = some ⟨65, true, [.int .i64 0, .slice none 0 0]⟩ := by
    rw [d2.lowEq (by omega) (by omega), up2.row _ (by omega)]; exact b0.1
  refine ⟨.inr (.inr (les_of b5 o5 d1.sc)), ?_⟩
  try simp (disch := first | omega | (simp only [ints_length, List.length_replicate, List.length_set] <;> omega)) only [Sall,evalOp,init,binE,binI,unE,convE,okNil,builtE,gv,TD.isAgg,resV,↓reduceIte,Nat.reduceEqDiff,reduceCtorEq,Nat.reduceAdd,Nat.reduceMul,Nat.reduceLeDiff,quietOp,blindOp,Int.reduceEq,Int.reduceLT,Int.reduceLE,Nat.reduceLT,tiA,tiXA, awpIS_nil, awpIS_cons, stepIS_op, loadOk, hu, g0, nh]
  have hle := d2.le
  have k5 : ∀ i r, i ≠ H1.next → H4.row i = some r → H5.row i = some r := fun i r hi hr => by
    rw [o5.low i (by have := d1.sc _ _ hr; have := b5.next; omega), b5.row i hi]; exact hr
  refine ⟨.inr (.inl (by kernel_rfl)), (a, (q, u)), rfl, ⟨a1, a2⟩, ll, hq, hll, fun Hx hx => hr4 Hx fun i r hi hr => hx i r (by omega) ?_, Ow.of_up ⟨by show H.next ≤ H5.next; omega, fun i hi => ?_⟩ (d2.sc.set _ _)⟩
  · rw [AH.setCells_row, if_neg (by omega)]; exact k5 i r (by omega) hr
  · rw [AH.setCells_row, if_neg (by omega), d2.lowEq (by omega) (by omega), up2.row _ (by omega), o1.low _ hi]
end Go.Proofs.Ytgkmdfjjlghecaa.A
end

section
set_option linter.unusedSimpArgs false
set_option linter.unusedVariables false
set_option maxRecDepth 100000
set_option maxHeartbeats 2000000
namespace Go.Proofs.Ytgkmdfjjlghecaa.A
open Go Go.Abs Go.RowKit

theorem take_sum (l : List Int) (j : Nat) (hj : j < l.length) : (l.take (j + 1)).sum = (l.take j).sum + l.getD j 0 := by
  have e : l.take (j + 1) = l.take j ++ [l[j]] := by rw [List.take_add_one, List.getElem?_eq_getElem hj]; rfl
  have e2 : l.getD j 0 = l[j] := by rw [List.getD_eq_getElem?_getD, List.getElem?_eq_getElem hj]; rfl
  rw [e, e2, List.sum_append, List.sum_cons, List.sum_nil, Int.add_zero]
theorem sum_bound {l : List Int} (hb : ∀ x, x ∈ l → 0 ≤ x ∧ x ≤ 1000000) : ∀ j, j ≤ l.length → 0 ≤ (l.take j).sum ∧ (l.take j).sum ≤ (j : Int) * 1000000
  | 0, _ => by simp
  | j + 1, h => by
    have ih := sum_bound hb j (by omega)
    rw [take_sum l j (by omega)]
    have h2 : l.getD j 0 ∈ l := by
      rw [List.getD_eq_getElem?_getD, List.getElem?_eq_getElem (by omega)]
      exact List.getElem_mem _
    have := hb _ h2
    omega

theorem sum_c (v : Value) (n : Nat) (l : List Int) (H : AH) (hn : n ≤ 1000) (hv : Rd 1 H v n l) (hb : ∀ x, x ∈ l → 0 ≤ x ∧ x ≤ 1000000) : ACalls Try.prog 51 [v] H (is (.int .i64 l.sum) H) := by
  refine acalls_of_awp [.tmp 2] Try.func51 (by kernel_rfl) rfl rfl (Nat.le_of_ble_eq_true rfl) (by kernel_rfl) ?_
  have hln := hv.len
  have hl := hv.lenK1
  try simp (disch := first | omega | (simp only [ints_length, List.length_replicate, List.length_set] <;> omega)) only [Sall,evalOp,init,binE,binI,unE,convE,okNil,builtE,gv,TD.isAgg,resV,↓reduceIte,Nat.reduceEqDiff,reduceCtorEq,Nat.reduceAdd,Nat.reduceMul,Nat.reduceLeDiff,quietOp,blindOp,Int.reduceEq,Int.reduceLT,Int.reduceLE,Nat.reduceLT,tiA,tiXA, true_and]
  refine awp_loop (fun z t H' => H' = H ∧ ∃ j : Nat, z = n - j ∧ j ≤ n ∧ t 4 = .int .i64 j ∧ t 3 = .int .i64 (l.take j).sum ∧ t 0 = v) n ?_ ?_
  · refine ⟨rfl, 0, by omega, by omega, ?_⟩
    try simp (disch := first | omega | (simp only [ints_length, List.length_replicate, List.length_set] <;> omega)) only [Sall,evalOp,init,binE,binI,unE,convE,okNil,builtE,gv,TD.isAgg,resV,↓reduceIte,Nat.reduceEqDiff,reduceCtorEq,Nat.reduceAdd,Nat.reduceMul,Nat.reduceLeDiff,quietOp,blindOp,Int.reduceEq,Int.reduceLT,Int.reduceLE,Nat.reduceLT,tiA,tiXA, Int.natCast_zero, List.take_zero, List.sum_nil]
  · rintro z t H' ⟨rfl, j, hz, hj, h4, h3, h0⟩
    try simp (disch := first | omega | (simp only [ints_length, List.length_replicate, List.length_set] <;> omega)) only [Sall,evalOp,init,binE,binI,unE,convE,okNil,builtE,gv,TD.isAgg,resV,↓reduceIte,Nat.reduceEqDiff,reduceCtorEq,Nat.reduceAdd,Nat.reduceMul,Nat.reduceLeDiff,quietOp,blindOp,Int.reduceEq,Int.reduceLT,Int.reduceLE,Nat.reduceLT,tiA,tiXA, h4, h0, hln, builtE]
    refine condC_dec (fun hh => ?_) (fun hh => ?_)
    · obtain ⟨ai, ao, au, ac, ar, rfl, a1, a2, a3, a4⟩ := hv.get (by omega)
      have a5 := a3 j (by omega)
      have hs := sum_bound hb j (by omega)
      have hs1 := sum_bound hb (j + 1) (by omega)
      have hst := take_sum l j (by omega)
      have ew : IntKind.i64.wrap ((l.take j).sum + l.getD j 0) = (l.take (j + 1)).sum := by
        rw [← hst]; exact w64 (by omega)
      try simp (disch := first | omega | (simp only [ints_length, List.length_replicate, List.length_set] <;> omega)) only [Sall,evalOp,init,binE,binI,unE,convE,okNil,builtE,gv,TD.isAgg,resV,↓reduceIte,Nat.reduceEqDiff,reduceCtorEq,Nat.reduceAdd,Nat.reduceMul,Nat.reduceLeDiff,quietOp,blindOp,Int.reduceEq,Int.reduceLT,Int.reduceLE,Nat.reduceLT,tiA,tiXA, h4, h3, h0, a1, a5, ew, w64]
      (repeat refine And.intro (by omega) ?_)
      try simp (disch := first | omega | (simp only [ints_length, List.length_replicate, List.length_set] <;> omega)) only [Sall,evalOp,init,binE,binI,unE,convE,okNil,builtE,gv,TD.isAgg,resV,↓reduceIte,Nat.reduceEqDiff,reduceCtorEq,Nat.reduceAdd,Nat.reduceMul,Nat.reduceLeDiff,quietOp,blindOp,Int.reduceEq,Int.reduceLT,Int.reduceLE,Nat.reduceLT,tiA,tiXA, h4, h3, h0, a1, a5, ew, w64]
      exact ⟨n - (j + 1), by omega, j + 1, rfl, by omega, rfl, rfl⟩
    · have e : l.take j = l := List.take_of_length_le (by omega)
      rw [e] at h3
      try simp (disch := first | omega | (simp only [ints_length, List.length_replicate, List.length_set] <;> omega)) only [Sall,evalOp,init,binE,binI,unE,convE,okNil,builtE,gv,TD.isAgg,resV,↓reduceIte,Nat.reduceEqDiff,reduceCtorEq,Nat.reduceAdd,Nat.reduceMul,Nat.reduceLeDiff,quietOp,blindOp,Int.reduceEq,Int.reduceLT,Int.reduceLE,Nat.reduceLT,tiA,tiXA, h3]
      exact ⟨rfl, rfl⟩

end Go.Proofs.Ytgkmdfjjlghecaa.A
end

section
set_option linter.unusedSimpArgs false
set_option linter.unusedVariables false
namespace Go.Abs

def sumN (N : Nat) (f : Nat → Nat) : Nat := ((List.range N).map f).sum
theorem sumN_succ (N : Nat) (f : Nat → Nat) : sumN (N + 1) f = sumN N f + f N := by simp [sumN, List.range_succ]
theorem sumN_congr {f g : Nat → Nat} : ∀ N, (∀ i, i < N → f i = g i) → sumN N f = sumN N g
  | 0, _ => rfl
  | N + 1, h => by rw [sumN_succ, sumN_succ, sumN_congr N fun i hi => h i (by omega), h N (by omega)]
theorem sumN_add (f g : Nat → Nat) : ∀ N, sumN N (fun i => f i + g i) = sumN N f + sumN N g
  | 0 => rfl
  | N + 1 => by rw [sumN_succ, sumN_succ, sumN_succ, sumN_add f g N]; omega
theorem sumN_const0 : ∀ N, sumN N (fun _ => 0) = 0
  | 0 => rfl
  | N + 1 => by rw [sumN_succ, sumN_const0 N]
theorem sumN_single (j c : Nat) : ∀ N, j < N → sumN N (fun i => if i = j then c else 0) = c
  | 0, h => by omega
  | N + 1, h => by
    rw [sumN_succ]
    by_cases e : j = N
    · subst e
      rw [if_pos rfl, sumN_congr j (g := fun _ => 0) fun i hi => if_neg (by omega), sumN_const0]; omega
    · rw [sumN_single j c N (by omega), if_neg (by omega), Nat.add_zero]
def keyC {α : Type} (k : α → Nat) (P : List α) (i : Nat) : Nat := (P.filter fun p => k p == i).length
structure Con (n G : Nat) (pr : Nat → Nat × Nat) (room0 room : Nat → Nat) (P : List (Nat × Nat)) : Prop where
  team : ∀ b, b < n → keyC Prod.snd P b + room b = room0 b
  pt : ∀ p ∈ P, p.1 < G ∧ p.2 < n ∧ (p.2 = (pr p.1).1 ∨ p.2 = (pr p.1).2)
  two : ∀ g, g < G → keyC Prod.fst P g ≤ 2
end Go.Abs
end

section
set_option linter.unusedSimpArgs false
set_option linter.unusedVariables false
namespace Go.Abs

structure Mu (n : Nat) (I : List Int) : Prop where
  sym : ∀ a b : Nat, a < n → b < n → I.count (ixN n a b) = I.count (ixN n b a)
  tot : sumN n (fun a => sumN n fun b => I.count (ixN n a b)) = I.length
theorem Mu.nil (n : Nat) : Mu n [] := ⟨fun _ _ _ _ => rfl, by
  rw [sumN_congr n (g := fun _ => 0) fun a _ => by
    show (sumN n fun b => List.count (ixN n a b) []) = 0
    rw [sumN_congr n (g := fun _ => 0) fun b _ => by simp, sumN_const0], sumN_const0]; rfl⟩
theorem Mu.app {n : Nat} {I J : List Int} (h : Mu n I) (k : Mu n J) : Mu n (I ++ J) := ⟨fun a b ha hb => by
  rw [List.count_append, List.count_append, h.sym a b ha hb, k.sym a b ha hb], by
  rw [sumN_congr n (g := fun a => (sumN n fun b => I.count (ixN n a b)) + sumN n fun b => J.count (ixN n a b)) fun a _ => by
    show (sumN n fun b => List.count (ixN n a b) (I ++ J)) = _
    rw [sumN_congr n (g := fun b => I.count (ixN n a b) + J.count (ixN n a b)) fun b _ => by rw [List.count_append], sumN_add]]
  rw [sumN_add, h.tot, k.tot, List.length_append]⟩
theorem ixN_eq {n a b x y : Nat} (hb : b < n) (hy : y < n) : ixN n a b = ixN n x y ↔ a = x ∧ b = y := by
  constructor
  · intro h
    unfold ixN at h
    have h : a * n + b = x * n + y := by omega
    have hn : 0 < n := by omega
    have h1 : (a * n + b) / n = a := by rw [Nat.mul_comm, Nat.mul_add_div hn, Nat.div_eq_of_lt hb]; rfl
    have h2 : (x * n + y) / n = x := by rw [Nat.mul_comm, Nat.mul_add_div hn, Nat.div_eq_of_lt hy]; rfl
    have : a = x := by rw [← h1, ← h2, h]
    subst this
    exact ⟨rfl, by omega⟩
  · rintro ⟨rfl, rfl⟩; rfl
theorem Mu.two {n x y : Nat} (hx : x < n) (hy : y < n) : Mu n [ixN n x y, ixN n y x] := by
  have h1 : ∀ a b : Nat, b < n → [ixN n x y, ixN n y x].count (ixN n a b) = (if a = x ∧ b = y then 1 else 0) + if a = y ∧ b = x then 1 else 0 := fun a b hb => by
    rw [List.count_cons, List.count_cons, List.count_nil]
    have e1 : (ixN n x y == ixN n a b) = decide (a = x ∧ b = y) := by
      rw [Bool.eq_iff_iff, beq_iff_eq, decide_eq_true_iff, ← ixN_eq hb hy]
      exact eq_comm
    have e2 : (ixN n y x == ixN n a b) = decide (a = y ∧ b = x) := by
      rw [Bool.eq_iff_iff, beq_iff_eq, decide_eq_true_iff, ← ixN_eq hb hx]
      exact eq_comm
    rw [e1, e2]
    simp only [decide_eq_true_eq]
    omega
  refine ⟨fun a b ha hb => ?_, ?_⟩
  · rw [h1 a b hb, h1 b a ha]
    by_cases c1 : a = x ∧ b = y
    · by_cases c2 : a = y ∧ b = x
      · rw [if_pos c1, if_pos c2, if_pos ⟨c2.2, c2.1⟩, if_pos ⟨c1.2, c1.1⟩]
      · rw [if_pos c1, if_neg c2, if_neg (fun h => c2 ⟨h.2, h.1⟩), if_pos ⟨c1.2, c1.1⟩]
    · by_cases c2 : a = y ∧ b = x
      · rw [if_neg c1, if_pos c2, if_pos ⟨c2.2, c2.1⟩, if_neg (fun h => c1 ⟨h.2, h.1⟩)]
      · rw [if_neg c1, if_neg c2, if_neg (fun h => c2 ⟨h.2, h.1⟩), if_neg (fun h => c1 ⟨h.2, h.1⟩)]
  · have h2 : ∀ p q : Nat, p < n → q < n → (sumN n fun a => sumN n fun b => if a = p ∧ b = q then 1 else 0) = 1 := fun p q hp hq => by
      rw [sumN_congr n (g := fun a => if a = p then 1 else 0) fun a _ => by
        by_cases e : a = p
        · rw [if_pos e, sumN_congr n (g := fun b => if b = q then 1 else 0) fun b _ => by
            by_cases e2 : b = q
            · rw [if_pos ⟨e, e2⟩, if_pos e2]
            · rw [if_neg (fun h => e2 h.2), if_neg e2], sumN_single q 1 n hq]
        · rw [if_neg e, sumN_congr n (g := fun _ => 0) fun b _ => if_neg (fun h => e h.1), sumN_const0], sumN_single p 1 n hp]
    rw [sumN_congr n (g := fun a => (sumN n fun b => if a = x ∧ b = y then 1 else 0) + sumN n fun b => if a = y ∧ b = x then 1 else 0) fun a _ => by
      rw [sumN_congr n (g := fun b => (if a = x ∧ b = y then 1 else 0) + if a = y ∧ b = x then 1 else 0) fun b hb => h1 a b hb, sumN_add], sumN_add, h2 x y hx hy, h2 y x hy hx]
    rfl
theorem Mu.flat {α : Type} {n : Nat} {f : α → List Int} : ∀ (l : List α), (∀ x ∈ l, Mu n (f x)) → Mu n (l.flatMap f)
  | [], _ => Mu.nil n
  | x :: l, h => by
    rw [List.flatMap_cons]
    exact (h x List.mem_cons_self).app (Mu.flat l fun y hy => h y (List.mem_cons_of_mem _ hy))
theorem mu_evA {n : Nat} {ws : List (Nat × Nat)} {R : List (List Int)} (hws : ∀ w ∈ ws, w.1 < 4 ∧ w.2 < 4) (hR : ∀ i, i < R.length → ∀ x ∈ R.getD i [], 0 ≤ x ∧ x < (n : Int)) : Mu n (evA n ws R R.length) := by
  unfold evA
  refine Mu.flat _ fun i hi => ?_
  unfold evR
  refine Mu.flat _ fun t ht => ?_
  unfold evW
  refine Mu.flat _ fun w hw => ?_
  have hi := List.mem_range.1 hi
  have ht := List.mem_range.1 ht
  have hr := hR i hi
  generalize R.getD i [] = row at hr ht ⊢
  have hq : ∀ j, j < 4 → qd row t j < n := fun j hj => by
    unfold qd
    have := hr (row.getD (4 * t + j) 0) (by
      rw [List.getD_eq_getElem?_getD, List.getElem?_eq_getElem (by omega)]; exact List.getElem_mem _)
    omega
  exact Mu.two (hq _ (hws w hw).1) (hq _ (hws w hw).2)

theorem evA_lenEq {n : Nat} {ws : List (Nat × Nat)} {R : List (List Int)} (hR : ∀ i, i < R.length → (R.getD i []).length % 4 = 0) : ∀ k, k ≤ R.length → 4 * (evA n ws R k).length = 2 * ws.length * ((R.take k).map List.length).sum
  | 0, _ => by simp [evA]
  | k + 1, h => by
    have ih := evA_lenEq (n := n) (ws := ws) hR k (by omega)
    rw [evA_succ, List.length_append, evR_length, take_snoc R [] k h, List.map_append, List.sum_append, Nat.mul_add, ih, Nat.mul_add]
    have h4 := hR k (by omega)
    have e : (R.getD k []).length = (R.getD k []).length / 4 * 4 := by omega
    have e2 : (List.map List.length [R.getD k []]).sum = (R.getD k []).length / 4 * 4 := by rw [← e]; simp
    rw [e2]
    congr 1
    generalize (R.getD k []).length / 4 = m
    generalize 2 * ws.length = w
    rw [Nat.mul_comm 4, ← Nat.mul_assoc w m 4, Nat.mul_comm m w]

theorem sumN_cast (f : Nat → Nat) : ∀ N, ((List.range N).map fun a => ((f a : Nat) : Int)).sum = ((sumN N f : Nat) : Int)
  | 0 => rfl
  | N + 1 => by rw [List.range_succ, List.map_append, List.sum_append, sumN_cast f N, sumN_succ]; simp

structure TabF (n c : Nat) (M : List (List Int)) : Prop where
  sq : SqM n M
  rng : ∀ i, i < n → ∀ x ∈ M.getD i [], 0 ≤ x ∧ x ≤ 1000000
  sym : ∀ a b, a < n → b < n → (M.getD a []).getD b 0 = (M.getD b []).getD a 0
  tot : (M.map List.sum).sum = (c : Int)
theorem tabF {n : Nat} {ws : List (Nat × Nat)} {R : List (List Int)} (hws : ∀ w ∈ ws, w.1 < 4 ∧ w.2 < 4) (hwl : ws.length ≤ 4) (hl : R.length ≤ 20) (hR : ∀ i, i < R.length → (R.getD i []).length % 4 = 0 ∧ (R.getD i []).length ≤ 16 ∧ ∀ x ∈ R.getD i [], 0 ≤ x ∧ x < (n : Int)) {c : Nat} (hc : 4 * c = 2 * ws.length * (R.map List.length).sum) : TabF n c (tabM n ws R) := by
  have mu := mu_evA (n := n) hws fun i hi => (hR i hi).2.2
  have hlen := evA_lenEq (n := n) (ws := ws) (fun i hi => (hR i hi).1) R.length (Nat.le_refl _)
  rw [List.take_length, ← hc] at hlen
  have hb := evA_length (n := n) (ws := ws) (fun i hi => (hR i hi).2.1) R.length (Nat.le_refl _)
  have hb2 : R.length * (4 * (2 * ws.length)) ≤ 20 * (4 * (2 * 4)) := Nat.mul_le_mul hl (by omega)
  refine ⟨tabM_sq _ _ _, fun i hi x hx => ?_, fun a b ha hb => ?_, ?_⟩
  · unfold tabM at hx
    rw [cntMx_row _ _ _ hi, List.mem_map] at hx
    obtain ⟨b, _, rfl⟩ := hx
    have := List.count_le_length (a := ixN n i b) (l := evA n ws R R.length)
    omega
  · unfold tabM
    rw [cntMx_at _ _ _ _ ha hb, cntMx_at _ _ _ _ hb ha, mu.sym a b ha hb]
  · unfold tabM cntMx
    rw [List.map_map]
    have e : ((List.range n).map (List.sum ∘ fun a => (List.range n).map fun b => (((evA n ws R R.length).count (ixN n a b) : Nat) : Int))) = (List.range n).map fun a => ((sumN n (fun b => (evA n ws R R.length).count (ixN n a b)) : Nat) : Int) := by
      apply List.map_congr_left
      intro a _
      exact sumN_cast _ n
    rw [e, sumN_cast, mu.tot]
    omega

theorem sit_len {row : List Int} (hn : row.Nodup) (h0 : ∀ x ∈ row, 0 ≤ x) : ∀ b : Nat, (sitL row b).length + (row.filter fun x => decide (x < (b : Int))).length = b
  | 0 => by
    have : (row.filter fun x => decide (x < ((0 : Nat) : Int))) = [] := List.filter_eq_nil_iff.2 fun x hx h => by
      have := h0 x hx
      have := of_decide_eq_true h
      omega
    rw [this]; rfl
  | b + 1 => by
    have ih := sit_len hn h0 b
    have e : (row.filter fun x => decide (x < ((b + 1 : Nat) : Int))).length = (row.filter fun x => decide (x < (b : Int))).length + row.count (b : Int) := by
      rw [← List.countP_eq_length_filter, ← List.countP_eq_length_filter]
      clear ih hn h0
      induction row with
      | nil => rfl
      | cons x row ih =>
        rw [List.countP_cons, List.countP_cons, List.count_cons, ih]
        by_cases e1 : x = (b : Int)
        · have c1 : decide (x < ((b + 1 : Nat) : Int)) = true := decide_eq_true (by omega)
          have c2 : decide (x < (b : Int)) = false := decide_eq_false (by omega)
          rw [c1, c2, e1, if_pos rfl, if_neg (by simp), beq_self_eq_true, if_pos rfl]; omega
        · have c3 : (x == (b : Int)) = false := beq_eq_false_iff_ne.2 e1
          by_cases e2 : x < (b : Int)
          · have c1 : decide (x < ((b + 1 : Nat) : Int)) = true := decide_eq_true (by omega)
            have c2 : decide (x < (b : Int)) = true := decide_eq_true e2
            rw [c1, c2, c3]; simp; omega
          · have c1 : decide (x < ((b + 1 : Nat) : Int)) = false := decide_eq_false (by omega)
            have c2 : decide (x < (b : Int)) = false := decide_eq_false e2
            rw [c1, c2, c3]; simp
    rw [e]
    cases hc : row.contains (b : Int) with
    | true =>
      have hm := List.contains_iff_mem.1 hc
      have := hn.count (a := (b : Int))
      rw [if_pos hm] at this
      rw [sitL_yes hc, this]; omega
    | false =>
      have hm : ¬ (b : Int) ∈ row := fun h => by rw [List.contains_iff_mem.2 h] at hc; cases hc
      rw [sitL_no hc, List.length_append, List.count_eq_zero_of_not_mem hm]
      simp; omega
theorem sit_all {row : List Int} {n : Nat} (hn : row.Nodup) (h : ∀ x ∈ row, 0 ≤ x ∧ x < (n : Int)) : (sitL row n).length + row.length = n := by
  have := sit_len hn (fun x hx => (h x hx).1) n
  have e : (row.filter fun x => decide (x < (n : Int))) = row := List.filter_eq_self.2 fun x hx => decide_eq_true (h x hx).2
  rw [e] at this
  exact this
end Go.Abs
end

section
set_option linter.unusedSimpArgs false
set_option linter.unusedVariables false
set_option maxRecDepth 100000
set_option maxHeartbeats 2000000
namespace Go.Proofs.Ytgkmdfjjlghecaa.A
open Go Go.Abs Go.RowKit

theorem rows9_c (a b : Value) (ll : List (List Int)) (H : AH) (hn : ll.length ≤ 4294967296) (hr : ∀ j, j < ll.length → (ll.getD j []).length ≤ 4294967296) (ha : Rd2 1 H a ll) (hb : Rd2 1 H b ll) : ACalls Try.prog 42 [a, b] H (is (.bool true) H) := by
  refine acalls_of_awp [.tmp 4] Try.func42 (by kernel_rfl) rfl rfl (Nat.le_of_ble_eq_true rfl) (by kernel_rfl) ?_
  have la := ha.len
  have lb := hb.len
  try simp (disch := first | omega | (simp only [ints_length, List.length_replicate, List.length_set] <;> omega)) only [Sall,evalOp,init,binE,binI,unE,convE,okNil,builtE,gv,TD.isAgg,resV,↓reduceIte,Nat.reduceEqDiff,reduceCtorEq,Nat.reduceAdd,Nat.reduceMul,Nat.reduceLeDiff,quietOp,blindOp,Int.reduceEq,Int.reduceLT,Int.reduceLE,Nat.reduceLT,tiA,tiXA, la, lb, builtE, bne_self_eq_false]
  refine awp_loop (fun z t H' => H' = H ∧ ∃ j : Nat, z = ll.length - j ∧ j ≤ ll.length ∧ t 5 = .int .i64 j ∧ t 0 = a ∧ t 1 = b) ll.length ?_ ?_
  · refine ⟨rfl, 0, by omega, by omega, ?_⟩
    try simp (disch := first | omega | (simp only [ints_length, List.length_replicate, List.length_set] <;> omega)) only [Sall,evalOp,init,binE,binI,unE,convE,okNil,builtE,gv,TD.isAgg,resV,↓reduceIte,Nat.reduceEqDiff,reduceCtorEq,Nat.reduceAdd,Nat.reduceMul,Nat.reduceLeDiff,quietOp,blindOp,Int.reduceEq,Int.reduceLT,Int.reduceLE,Nat.reduceLT,tiA,tiXA, Int.natCast_zero]
  · rintro z t H' ⟨rfl, j, hz, hj, h5, h0, h1⟩
    try simp (disch := first | omega | (simp only [ints_length, List.length_replicate, List.length_set] <;> omega)) only [Sall,evalOp,init,binE,binI,unE,convE,okNil,builtE,gv,TD.isAgg,resV,↓reduceIte,Nat.reduceEqDiff,reduceCtorEq,Nat.reduceAdd,Nat.reduceMul,Nat.reduceLeDiff,quietOp,blindOp,Int.reduceEq,Int.reduceLT,Int.reduceLE,Nat.reduceLT,tiA,tiXA, h5, h0, la, builtE]
    refine condC_dec (fun hh => ?_) (fun hh => ?_)
    · obtain ⟨ai, ao, au, ac, ar, ax, am, rfl, a1, a2, a3, a4⟩ := ha.get (j := j) (by omega)
      obtain ⟨bi, bo, bu, bc, br, bx, bm, rfl, b1, b2, b3, b4⟩ := hb.get (j := j) (by omega)
      have a5 := a3.lenK1
      have b5 := b3.lenK1
      rw [a5] at a3
      rw [b5] at b3
      have hj2 := hr j (by omega)
      try simp (disch := first | omega | (simp only [ints_length, List.length_replicate, List.length_set] <;> omega)) only [Sall,evalOp,init,binE,binI,unE,convE,okNil,builtE,gv,TD.isAgg,resV,↓reduceIte,Nat.reduceEqDiff,reduceCtorEq,Nat.reduceAdd,Nat.reduceMul,Nat.reduceLeDiff,quietOp,blindOp,Int.reduceEq,Int.reduceLT,Int.reduceLE,Nat.reduceLT,tiA,tiXA, h5, h0, h1]
      refine draw_id (by kernel_rfl) (by kernel_rfl) ?_
      try simp (disch := first | omega | (simp only [ints_length, List.length_replicate, List.length_set] <;> omega)) only [Sall,evalOp,init,binE,binI,unE,convE,okNil,builtE,gv,TD.isAgg,resV,↓reduceIte,Nat.reduceEqDiff,reduceCtorEq,Nat.reduceAdd,Nat.reduceMul,Nat.reduceLeDiff,quietOp,blindOp,Int.reduceEq,Int.reduceLT,Int.reduceLE,Nat.reduceLT,tiA,tiXA, h5, h0, h1, a1, a2, a4, b1, b2, b4]
      (repeat refine And.intro (by omega) ?_)
      try simp (disch := first | omega | (simp only [ints_length, List.length_replicate, List.length_set] <;> omega)) only [Sall,evalOp,init,binE,binI,unE,convE,okNil,builtE,gv,TD.isAgg,resV,↓reduceIte,Nat.reduceEqDiff,reduceCtorEq,Nat.reduceAdd,Nat.reduceMul,Nat.reduceLeDiff,quietOp,blindOp,Int.reduceEq,Int.reduceLT,Int.reduceLE,Nat.reduceLT,tiA,tiXA, h5, h0, h1, a1, a2, a4, b1, b2, b4]
      refine (likeInts_c ax bx _ _ H' hj2 a3 b3).to ?_
      refine ⟨.inr (.inr (LE.refl _)), ?_⟩
      try simp (disch := first | omega | (simp only [ints_length, List.length_replicate, List.length_set] <;> omega)) only [Sall,evalOp,init,binE,binI,unE,convE,okNil,builtE,gv,TD.isAgg,resV,↓reduceIte,Nat.reduceEqDiff,reduceCtorEq,Nat.reduceAdd,Nat.reduceMul,Nat.reduceLeDiff,quietOp,blindOp,Int.reduceEq,Int.reduceLT,Int.reduceLE,Nat.reduceLT,tiA,tiXA, h5, h0, h1, w64]
      exact ⟨ll.length - (j + 1), by omega, j + 1, rfl, by omega, rfl⟩
    · try simp (disch := first | omega | (simp only [ints_length, List.length_replicate, List.length_set] <;> omega)) only [Sall,evalOp,init,binE,binI,unE,convE,okNil,builtE,gv,TD.isAgg,resV,↓reduceIte,Nat.reduceEqDiff,reduceCtorEq,Nat.reduceAdd,Nat.reduceMul,Nat.reduceLeDiff,quietOp,blindOp,Int.reduceEq,Int.reduceLT,Int.reduceLE,Nat.reduceLT,tiA,tiXA, true_and]
      exact ⟨rfl, rfl⟩


theorem sumLen_step (ll : List (List Int)) (j : Nat) (h : j < ll.length) : ((ll.take (j + 1)).map List.length).sum = ((ll.take j).map List.length).sum + (ll.getD j []).length := by
  rw [take_snoc ll [] j h, List.map_append, List.sum_append]; simp
theorem sumLen_le {ll : List (List Int)} (b : Nat) (h : ∀ y, y ∈ ll → y.length ≤ b) {m : Nat} (hm : ll.length ≤ m) (j : Nat) : ((ll.take j).map List.length).sum ≤ b * m := by
  have : ∀ (l : List (List Int)), (∀ y, y ∈ l → y.length ≤ b) → (l.map List.length).sum ≤ b * l.length := fun l => by
    induction l with
    | nil => intro _; simp
    | cons y l ih =>
      intro h
      have h1 := h y List.mem_cons_self
      have h2 := ih fun z hz => h z (List.mem_cons_of_mem _ hz)
      rw [List.map_cons, List.sum_cons, List.length_cons, Nat.mul_succ]
      omega
  refine Nat.le_trans (this (ll.take j) fun y hy => h y (List.mem_of_mem_take hy)) (Nat.mul_le_mul_left _ ?_)
  rw [List.length_take]; omega
theorem sumS_step (ll : List (List Int)) (j : Nat) (h : j < ll.length) : ((ll.take (j + 1)).map List.sum).sum = ((ll.take j).map List.sum).sum + (ll.getD j []).sum := by
  rw [take_snoc ll [] j h, List.map_append, List.sum_append]; simp
theorem sumS_bound {n : Nat} {M : List (List Int)} (hs : SqM n M) (hr : ∀ i, i < n → ∀ x ∈ M.getD i [], 0 ≤ x ∧ x ≤ 1000000) (hn : n ≤ 16) : ∀ j, j ≤ n → 0 ≤ ((M.take j).map List.sum).sum ∧ ((M.take j).map List.sum).sum ≤ (j : Int) * 16000000
  | 0, _ => by simp
  | j + 1, h => by
    have ih := sumS_bound hs hr hn j (by omega)
    have hl := hs.2 j (by omega)
    have h1 := sum_bound (l := M.getD j []) (hr j (by omega)) (M.getD j []).length (Nat.le_refl _)
    rw [List.take_length] at h1
    rw [sumS_step M j (by rw [hs.1]; omega)]
    rw [hl] at h1
    omega
theorem poL_sq {q : Int} {R : List (List Int)} : (poL q R).length ≤ 16 ∧ ∀ j, j < (poL q R).length → ((poL q R).getD j []).length ≤ 16 := by
  unfold poL
  split
  · rename_i h
    obtain ⟨n, rfl, h4, h16, _⟩ := evB_at h
    obtain ⟨s1, s2⟩ := tabM_sq n wP R
    rw [Int.toNat_natCast]
    exact ⟨by omega, fun j hj => by rw [s2 j (by omega)]; omega⟩
  · exact ⟨by simp, fun j hj => by simp at hj⟩
theorem oiL_sq {q : Int} {R : List (List Int)} {k : Int} : (oiL q R k).length ≤ 16 ∧ ∀ j, j < (oiL q R k).length → ((oiL q R k).getD j []).length ≤ 16 := by
  unfold oiL
  split
  · rename_i h
    obtain ⟨n, rfl, h4, h16, _⟩ := evB_at h.1
    obtain ⟨s1, s2⟩ := tabM_sq n (wK k) R
    rw [Int.toNat_natCast]
    exact ⟨by omega, fun j hj => by rw [s2 j (by omega)]; omega⟩
  · exact ⟨by simp, fun j hj => by simp at hj⟩

theorem specIsEvening_c (q : Int) (v : Value) (R : List (List Int)) (H : AH) (hv : Rd2 1 H v R) (hl : R.length ≤ 4194304) (hl2 : ∀ r ∈ R, r.length ≤ 4194304) :
    ACalls Try.prog 50 [.agg #[.int .i64 q, v]] H (is (.bool (evB q R)) H) := by
  refine acalls_up rfl (ACalls.wf (by kernel_rfl) fun hs => acalls_of_awp [.tmp 2] Try.func50 (by kernel_rfl) rfl rfl (Nat.le_of_ble_eq_true rfl) (by kernel_rfl) ?_)
  have hone := hv.one
  have o1 := (Ow.refl hs).push ⟨65, true, [.int .i64 q, v]⟩
  try simp (disch := first | omega | (simp only [ints_length, List.length_replicate, List.length_set] <;> omega)) only [Sall,evalOp,init,binE,binI,unE,convE,okNil,builtE,gv,TD.isAgg,resV,↓reduceIte,Nat.reduceEqDiff,reduceCtorEq,Nat.reduceAdd,Nat.reduceMul,Nat.reduceLeDiff,quietOp,blindOp,Int.reduceEq,Int.reduceLT,Int.reduceLE,Nat.reduceLT,tiA,tiXA, hone]
  refine (l06Is_c q v R _ (hv.same (o1.old hs)) hl hl2).to ?_
  try simp (disch := first | omega | (simp only [ints_length, List.length_replicate, List.length_set] <;> omega)) only [Sall,evalOp,init,binE,binI,unE,convE,okNil,builtE,gv,TD.isAgg,resV,↓reduceIte,Nat.reduceEqDiff,reduceCtorEq,Nat.reduceAdd,Nat.reduceMul,Nat.reduceLeDiff,quietOp,blindOp,Int.reduceEq,Int.reduceLT,Int.reduceLE,Nat.reduceLT,tiA,tiXA, true_and]
  exact o1.up

theorem law_Tables_c (cv : Value) (nb : Nat) (H : AH) (hc : CodeOk H cv nb) :
    ACalls Try.prog 8 [cv] H (fun v _ => v = .bool true ∧ True) := by
  refine ACalls.wf (by kernel_rfl) fun hs => acalls_of_awp [.tmp 2] Try.func8 (by kernel_rfl) rfl rfl (Nat.le_of_ble_eq_true rfl) (by kernel_rfl) ?_
  have hone := hc.one
  try simp (disch := first | omega | (simp only [ints_length, List.length_replicate, List.length_set] <;> omega)) only [Sall,evalOp,init,binE,binI,unE,convE,okNil,builtE,gv,TD.isAgg,resV,↓reduceIte,Nat.reduceEqDiff,reduceCtorEq,Nat.reduceAdd,Nat.reduceMul,Nat.reduceLeDiff,quietOp,blindOp,Int.reduceEq,Int.reduceLT,Int.reduceLE,Nat.reduceLT,tiA,tiXA, true_and]
  refine (big_c cv nb H hc).to ?_
  refine Holds.mp ?_
  by_cases hbig : 4096 < (nb : Int)
  · have e : decide (4096 < (nb : Int)) = true := decide_eq_true hbig
    try simp (disch := first | omega | (simp only [ints_length, List.length_replicate, List.length_set] <;> omega)) only [Sall,evalOp,init,binE,binI,unE,convE,okNil,builtE,gv,TD.isAgg,resV,↓reduceIte,Nat.reduceEqDiff,reduceCtorEq,Nat.reduceAdd,Nat.reduceMul,Nat.reduceLeDiff,quietOp,blindOp,Int.reduceEq,Int.reduceLT,Int.reduceLE,Nat.reduceLT,tiA,tiXA, e]
  have e : decide (4096 < (nb : Int)) = false := decide_eq_false hbig
  have hnb : nb ≤ 4611686018427387904 := by omega
  try simp (disch := first | omega | (simp only [ints_length, List.length_replicate, List.length_set] <;> omega)) only [Sall,evalOp,init,binE,binI,unE,convE,okNil,builtE,gv,TD.isAgg,resV,↓reduceIte,Nat.reduceEqDiff,reduceCtorEq,Nat.reduceAdd,Nat.reduceMul,Nat.reduceLeDiff,quietOp,blindOp,Int.reduceEq,Int.reduceLT,Int.reduceLE,Nat.reduceLT,tiA,tiXA, e, hone]
  refine (drawOpponentsIn_c cv nb H hnb hc).ex ?_
  rintro ⟨kind, ⟨q, x⟩⟩ H1 ⟨hkd, R, hq, hR, hRR, o1⟩
  dsimp only at hkd hq hRR
  have hx := (hRR H1 fun i r _ h => h).one
  have hl1 : R.length ≤ 4194304 := by omega
  have hl2 : ∀ r ∈ R, r.length ≤ 4194304 := fun r hr => by have := hR.2 r hr; omega
  refine Holds.mp ?_
  try simp (disch := first | omega | (simp only [ints_length, List.length_replicate, List.length_set] <;> omega)) only [Sall,evalOp,init,binE,binI,unE,convE,okNil,builtE,gv,TD.isAgg,resV,↓reduceIte,Nat.reduceEqDiff,reduceCtorEq,Nat.reduceAdd,Nat.reduceMul,Nat.reduceLeDiff,quietOp,blindOp,Int.reduceEq,Int.reduceLT,Int.reduceLE,Nat.reduceLT,tiA,tiXA, hx]
  have o2 := ((o1.push ⟨65, true, [.int .i64 0, .slice none 0 0]⟩).putRow 0 rfl (cs' := [.int .i64 q, x]))
  obtain ⟨ei, eei⟩ : ∃ ei, ei = H1.next := ⟨_, rfl⟩
  rw [← eei] at o2 ⊢
  have keep : ∀ i r, H1.row i = some r → ((H1.push ⟨65, true, [.int .i64 0, .slice none 0 0]⟩).setCells ei [.int .i64 q, x]).row i = some r := fun i r hr => by
    have := o1.sc _ _ hr
    rw [AH.setCells_row, if_neg (by omega), AH.push_row, if_neg (by omega)]; exact hr
  have o2 : Ow H ((H1.push ⟨65, true, [.int .i64 0, .slice none 0 0]⟩).setCells ei [.int .i64 q, x]) [.row ei ⟨65, true, [.int .i64 q, x]⟩] := o2
  generalize (H1.push ⟨65, true, [.int .i64 0, .slice none 0 0]⟩).setCells ei [.int .i64 q, x] = H2 at o2 keep ⊢
  have g3 := (o2.rowAt 0 rfl).1
  have rx := hRR H2 fun i r _ h => keep i r h
  have hc2 := codeUp hc (o2.old hs)
  have sc2 := o2.sc
  clear hRR keep
  refine ACalls.ex (g := fun u => .tuple #[u, .int .i64 (oiC q R kind)]) (OpponentsIn_c q x R kind H2 rx hl1 hl2) ?_
  rintro v5 H3 o3
  have hv5 := (o3.rd2 0 rfl).one
  have g3' := o3.old sc2 _ _ g3
  refine Holds.mp ?_
  try simp (disch := first | omega | (simp only [ints_length, List.length_replicate, List.length_set] <;> omega)) only [Sall,evalOp,init,binE,binI,unE,convE,okNil,builtE,gv,TD.isAgg,resV,↓reduceIte,Nat.reduceEqDiff,reduceCtorEq,Nat.reduceAdd,Nat.reduceMul,Nat.reduceLeDiff,quietOp,blindOp,Int.reduceEq,Int.reduceLT,Int.reduceLE,Nat.reduceLT,tiA,tiXA, hv5, g3', hx]
  refine ACalls.ex (g := fun u => .tuple #[u, .int .i64 (oiC q R kind)]) (specOpponentsIn_c q x R kind H3 (rx.same (o3.old sc2)) hl1 hl2) ?_
  rintro v7 H4 o4
  have o4 := o3.call o4
  have hv7 := (o4.rd2 1 rfl).one
  have g3' := o4.old sc2 _ _ g3
  have sq := oiL_sq (q := q) (R := R) (k := kind)
  refine Holds.mp ?_
  try simp (disch := first | omega | (simp only [ints_length, List.length_replicate, List.length_set] <;> omega)) only [Sall,evalOp,init,binE,binI,unE,convE,okNil,builtE,gv,TD.isAgg,resV,↓reduceIte,Nat.reduceEqDiff,reduceCtorEq,Nat.reduceAdd,Nat.reduceMul,Nat.reduceLeDiff,quietOp,blindOp,Int.reduceEq,Int.reduceLT,Int.reduceLE,Nat.reduceLT,tiA,tiXA, hv7, bne_self_eq_false]
  refine (rows9_c v5 v7 (oiL q R kind) H4 (by omega) (fun j hj => by have := sq.2 j hj; omega) (o4.rd2 0 rfl) (o4.rd2 1 rfl)).to ?_
  refine Holds.mp ?_
  try simp (disch := first | omega | (simp only [ints_length, List.length_replicate, List.length_set] <;> omega)) only [Sall,evalOp,init,binE,binI,unE,convE,okNil,builtE,gv,TD.isAgg,resV,↓reduceIte,Nat.reduceEqDiff,reduceCtorEq,Nat.reduceAdd,Nat.reduceMul,Nat.reduceLeDiff,quietOp,blindOp,Int.reduceEq,Int.reduceLT,Int.reduceLE,Nat.reduceLT,tiA,tiXA, g3', hx, Bool.not_true]
  refine ACalls.ex (g := fun u => .tuple #[u, .int .i64 (evC q R)]) (ACalls.scz (PartnersOf_c q x R H4 (rx.same (o4.old sc2)) hl1 hl2)) ?_
  rintro v9 H5 ⟨⟨up5, f5⟩, sc5⟩
  have o5 := o4.call (Ow.of_fr2 up5 sc5 f5)
  have hv9 := (o5.rd2 2 rfl).one
  have g3' := o5.old sc2 _ _ g3
  refine Holds.mp ?_
  try simp (disch := first | omega | (simp only [ints_length, List.length_replicate, List.length_set] <;> omega)) only [Sall,evalOp,init,binE,binI,unE,convE,okNil,builtE,gv,TD.isAgg,resV,↓reduceIte,Nat.reduceEqDiff,reduceCtorEq,Nat.reduceAdd,Nat.reduceMul,Nat.reduceLeDiff,quietOp,blindOp,Int.reduceEq,Int.reduceLT,Int.reduceLE,Nat.reduceLT,tiA,tiXA, hv9, g3', hx]
  refine ACalls.ex (g := fun u => .tuple #[u, .int .i64 (evC q R)]) (ACalls.scz (specPartnersOf_c q x R H5 (rx.same (o5.old sc2)) hl1 hl2)) ?_
  rintro v11 H6 ⟨⟨up6, f6⟩, sc6⟩
  have o6 := o5.call (Ow.of_fr2 up6 sc6 f6)
  have hv11 := (o6.rd2 3 rfl).one
  have g3' := o6.old sc2 _ _ g3
  have sq2 := poL_sq (q := q) (R := R)
  refine Holds.mp ?_
  try simp (disch := first | omega | (simp only [ints_length, List.length_replicate, List.length_set] <;> omega)) only [Sall,evalOp,init,binE,binI,unE,convE,okNil,builtE,gv,TD.isAgg,resV,↓reduceIte,Nat.reduceEqDiff,reduceCtorEq,Nat.reduceAdd,Nat.reduceMul,Nat.reduceLeDiff,quietOp,blindOp,Int.reduceEq,Int.reduceLT,Int.reduceLE,Nat.reduceLT,tiA,tiXA, hv11, bne_self_eq_false]
  refine (rows9_c v9 v11 (poL q R) H6 (by omega) (fun j hj => by have := sq2.2 j hj; omega) (o6.rd2 2 rfl) (o6.rd2 3 rfl)).to ?_
  refine Holds.mp ?_
  try simp (disch := first | omega | (simp only [ints_length, List.length_replicate, List.length_set] <;> omega)) only [Sall,evalOp,init,binE,binI,unE,convE,okNil,builtE,gv,TD.isAgg,resV,↓reduceIte,Nat.reduceEqDiff,reduceCtorEq,Nat.reduceAdd,Nat.reduceMul,Nat.reduceLeDiff,quietOp,blindOp,Int.reduceEq,Int.reduceLT,Int.reduceLE,Nat.reduceLT,tiA,tiXA, hone, Bool.not_true]
  refine (drawSittingOut_c cv nb H6 hnb (codeUp hc2 (o6.old sc2))).ex ?_
  rintro ⟨i, ⟨q', y⟩⟩ H7 ⟨hid, R', hq', hR', hRR, o7⟩
  dsimp only at hid hq' hRR
  have hy := (hRR H7 fun i r _ h => h).one
  have hl1' : R'.length ≤ 4194304 := by omega
  have hl2' : ∀ r ∈ R', r.length ≤ 4194304 := fun r hr => by have := hR'.2 r hr; omega
  have o7' := o6.call o7
  refine Holds.mp ?_
  try simp (disch := first | omega | (simp only [ints_length, List.length_replicate, List.length_set] <;> omega)) only [Sall,evalOp,init,binE,binI,unE,convE,okNil,builtE,gv,TD.isAgg,resV,↓reduceIte,Nat.reduceEqDiff,reduceCtorEq,Nat.reduceAdd,Nat.reduceMul,Nat.reduceLeDiff,quietOp,blindOp,Int.reduceEq,Int.reduceLT,Int.reduceLE,Nat.reduceLT,tiA,tiXA, hy]
  have o8 := ((o7'.push ⟨65, true, [.int .i64 0, .slice none 0 0]⟩).putRow 4 rfl (cs' := [.int .i64 q', y]))
  obtain ⟨fi, efi⟩ : ∃ fi, fi = H7.next := ⟨_, rfl⟩
  rw [← efi] at o8 ⊢
  have keep : ∀ i r, H7.row i = some r → ((H7.push ⟨65, true, [.int .i64 0, .slice none 0 0]⟩).setCells fi [.int .i64 q', y]).row i = some r := fun i r hr => by
    have := o7'.sc _ _ hr
    rw [AH.setCells_row, if_neg (by omega), AH.push_row, if_neg (by omega)]; exact hr
  generalize (H7.push ⟨65, true, [.int .i64 0, .slice none 0 0]⟩).setCells fi [.int .i64 q', y] = H8 at o8 keep ⊢
  have g13 : H8.row fi = some ⟨65, true, [.int .i64 q', y]⟩ := (o8.rowAt 4 rfl).1
  have g38 := o8.old sc2 _ _ g3
  have rx8 := rx.same (o8.old sc2)
  have ry8 := hRR H8 fun i r _ h => keep i r h
  have r5 := o8.rd2 0 rfl
  have r9 := o8.rd2 2 rfl
  have sc8 := o8.sc
  clear hRR keep o8 o7' o7 o6 o5 o4 o3 o2 g3' rx
  refine ACalls.ex (g := fun u => .tuple #[u, .int .i64 (soC q' R' i)]) (SittingOut_c q' y R' i H8 (by omega) ry8 hl1' hl2') ?_
  rintro v15 H9 o9
  have hv15 := o9.one 0 rfl
  have g13' := o9.old sc8 _ _ g13
  refine Holds.mp ?_
  try simp (disch := first | omega | (simp only [ints_length, List.length_replicate, List.length_set] <;> omega)) only [Sall,evalOp,init,binE,binI,unE,convE,okNil,builtE,gv,TD.isAgg,resV,↓reduceIte,Nat.reduceEqDiff,reduceCtorEq,Nat.reduceAdd,Nat.reduceMul,Nat.reduceLeDiff,quietOp,blindOp,Int.reduceEq,Int.reduceLT,Int.reduceLE,Nat.reduceLT,tiA,tiXA, hv15, g13', hy]
  refine ACalls.ex (g := fun u => .tuple #[u, .int .i64 (soC q' R' i)]) (specSittingOut_c q' y R' i H9 (by omega) (ry8.same (o9.old sc8)) hl1' hl2') ?_
  rintro v17 Hz oz
  have oz := o9.call oz
  have hv17 := oz.one 1 rfl
  have hold := oz.old sc8
  have g13z := hold _ _ g13
  have g3z := hold _ _ g38
  have rxz := rx8.same hold
  have ryz := ry8.same hold
  have r5z := r5.same hold
  have r9z := r9.same hold
  have r15z := oz.rd 0 rfl
  have l15 := r15z.len
  have hso : (soL q' R' i).length ≤ 16 := by
    unfold soL
    split
    · rename_i h
      obtain ⟨n, rfl, h4, h16, _⟩ := evB_at h.1
      have := sitL_len (R'.getD i.toNat []) n
      rw [Int.toNat_natCast]; omega
    · simp
  refine Holds.mp ?_
  try simp (disch := first | omega | (simp only [ints_length, List.length_replicate, List.length_set] <;> omega)) only [Sall,evalOp,init,binE,binI,unE,convE,okNil,builtE,gv,TD.isAgg,resV,↓reduceIte,Nat.reduceEqDiff,reduceCtorEq,Nat.reduceAdd,Nat.reduceMul,Nat.reduceLeDiff,quietOp,blindOp,Int.reduceEq,Int.reduceLT,Int.reduceLE,Nat.reduceLT,tiA,tiXA, hv17, bne_self_eq_false]
  refine (likeInts_c v15 v17 _ (soL q' R' i) Hz (by omega) (oz.rd 0 rfl) (oz.rd 1 rfl)).to ?_
  clear oz o9 g13' r5 r9 ry8 rx8 g38 g13
  refine Holds.mp ?_
  try simp (disch := first | omega | (simp only [ints_length, List.length_replicate, List.length_set] <;> omega)) only [Sall,evalOp,init,binE,binI,unE,convE,okNil,builtE,gv,TD.isAgg,resV,↓reduceIte,Nat.reduceEqDiff,reduceCtorEq,Nat.reduceAdd,Nat.reduceMul,Nat.reduceLeDiff,quietOp,blindOp,Int.reduceEq,Int.reduceLT,Int.reduceLE,Nat.reduceLT,tiA,tiXA, g3z, hx, Bool.not_true]
  refine draw_in [0, 2, 1, 3, 4] (by kernel_rfl) (by kernel_rfl) rfl ?_
  try simp (disch := first | omega | (simp only [ints_length, List.length_replicate, List.length_set] <;> omega)) only [Sall,evalOp,init,binE,binI,unE,convE,okNil,builtE,gv,TD.isAgg,resV,↓reduceIte,Nat.reduceEqDiff,reduceCtorEq,Nat.reduceAdd,Nat.reduceMul,Nat.reduceLeDiff,quietOp,blindOp,Int.reduceEq,Int.reduceLT,Int.reduceLE,Nat.reduceLT,tiA,tiXA, awpI_nil, awpI_cons, stepI_op, loadOk, g3z, hx]
  refine (IsEvening_c q x R Hz rxz hl1 hl2).to ?_
  refine ⟨.inr (.inr (LE.refl _)), ?_⟩
  try simp (disch := first | omega | (simp only [ints_length, List.length_replicate, List.length_set] <;> omega)) only [Sall,evalOp,init,binE,binI,unE,convE,okNil,builtE,gv,TD.isAgg,resV,↓reduceIte,Nat.reduceEqDiff,reduceCtorEq,Nat.reduceAdd,Nat.reduceMul,Nat.reduceLeDiff,quietOp,blindOp,Int.reduceEq,Int.reduceLT,Int.reduceLE,Nat.reduceLT,tiA,tiXA, awpI_nil, awpI_cons, stepI_op, loadOk, g3z, hx]
  refine (specIsEvening_c q x R Hz rxz hl1 hl2).to ?_
  refine ⟨.inr (.inr (LE.refl _)), ?_⟩
  try simp (disch := first | omega | (simp only [ints_length, List.length_replicate, List.length_set] <;> omega)) only [Sall,evalOp,init,binE,binI,unE,convE,okNil,builtE,gv,TD.isAgg,resV,↓reduceIte,Nat.reduceEqDiff,reduceCtorEq,Nat.reduceAdd,Nat.reduceMul,Nat.reduceLeDiff,quietOp,blindOp,Int.reduceEq,Int.reduceLT,Int.reduceLE,Nat.reduceLT,tiA,tiXA, awpI_nil, awpI_cons, stepI_op, loadOk, bne_self_eq_false]
  have eb : (!(evB q R == evB q R)) = false := by simp
  rw [eb]
  try simp (disch := first | omega | (simp only [ints_length, List.length_replicate, List.length_set] <;> omega)) only [Sall,evalOp,init,binE,binI,unE,convE,okNil,builtE,gv,TD.isAgg,resV,↓reduceIte,Nat.reduceEqDiff,reduceCtorEq,Nat.reduceAdd,Nat.reduceMul,Nat.reduceLeDiff,quietOp,blindOp,Int.reduceEq,Int.reduceLT,Int.reduceLE,Nat.reduceLT,tiA,tiXA, true_and]
  refine awp_cutQ (fun t H' => H' = Hz ∧ t 3 = .pointer (some ⟨ei, 0, none⟩) ∧ t 4 = .int .i64 kind ∧ t 5 = v5 ∧ t 6 = .int .i64 (oiC q R kind) ∧ t 9 = v9 ∧ t 10 = .int .i64 (evC q R) ∧ t 120 = .bool false) ?_ ?_
  · refine Holds.mp ?_
    by_cases hg : evB q' R' = true ∧ (0 ≤ i ∧ i ≤ (R'.length : Int) - 1)
    · obtain ⟨n', en', h4', h16', h20', hall'⟩ := evB_at hg.1
      have eC : soC q' R' i = 0 := by unfold soC; rw [if_pos hg.1, if_pos (decide_eq_true hg.2)]
      have eL : soL q' R' i = sitL (R'.getD i.toNat []) n' := by unfold soL; rw [if_pos hg, en', Int.toNat_natCast]
      obtain ⟨j, ej⟩ : ∃ j : Nat, i = j := ⟨i.toNat, by omega⟩
      rw [ej, Int.toNat_natCast] at eL
      rw [ej] at eC l15 hso ⊢
      obtain ⟨xi, xo, xuu, xc, xr, yv, my, ex, hxr, hyv, hsx, hok⟩ := ryz.get (j := j) (by omega)
      have hmm := hsx.lenK1
      have ly := hsx.len
      have hrow := hall' j (by omega)
      have hsit := sit_all hrow.2.2.2 hrow.2.2.1
      rw [← eL, ← hmm] at hsit
      have en : ((((soL q' R' (j : Int)).length : Nat) : Int) + (my : Int) != q') = false := by
        have : (((soL q' R' (j : Int)).length : Nat) : Int) + (my : Int) = q' := by omega
        rw [this]; exact bne_self_eq_false _
      have e0 : ((0 : Int) == 0) = true := rfl
      have jn : ((j : Nat) : Int).toNat = j := rfl
      try simp (disch := first | omega | (simp only [ints_length, List.length_replicate, List.length_set] <;> omega)) only [Sall,evalOp,init,binE,binI,unE,convE,okNil,builtE,gv,TD.isAgg,resV,↓reduceIte,Nat.reduceEqDiff,reduceCtorEq,Nat.reduceAdd,Nat.reduceMul,Nat.reduceLeDiff,quietOp,blindOp,Int.reduceEq,Int.reduceLT,Int.reduceLE,Nat.reduceLT,tiA,tiXA, eC, e0, builtE, l15]
      refine draw_id (by kernel_rfl) (by kernel_rfl) ?_
      try simp (disch := first | omega | (simp only [ints_length, List.length_replicate, List.length_set] <;> omega)) only [Sall,evalOp,init,binE,binI,unE,convE,okNil,builtE,gv,TD.isAgg,resV,↓reduceIte,Nat.reduceEqDiff,reduceCtorEq,Nat.reduceAdd,Nat.reduceMul,Nat.reduceLeDiff,quietOp,blindOp,Int.reduceEq,Int.reduceLT,Int.reduceLE,Nat.reduceLT,tiA,tiXA, eC, e0, builtE, l15, g13z, ex, hxr, hyv, hok, ly, jn, w64]
      (repeat refine And.intro (by omega) ?_)
      try simp (disch := first | omega | (simp only [ints_length, List.length_replicate, List.length_set] <;> omega)) only [Sall,evalOp,init,binE,binI,unE,convE,okNil,builtE,gv,TD.isAgg,resV,↓reduceIte,Nat.reduceEqDiff,reduceCtorEq,Nat.reduceAdd,Nat.reduceMul,Nat.reduceLeDiff,quietOp,blindOp,Int.reduceEq,Int.reduceLT,Int.reduceLE,Nat.reduceLT,tiA,tiXA, eC, e0, builtE, l15, g13z, ex, hxr, hyv, hok, ly, jn, w64, en]
    · have eC : (soC q' R' i == 0) = false := by
        unfold soC
        by_cases h1 : evB q' R' = true
        · rw [if_pos h1, if_neg (by rw [decide_eq_false (fun h => hg ⟨h1, h⟩)]; simp)]; rfl
        · rw [if_neg h1]; rfl
      try simp (disch := first | omega | (simp only [ints_length, List.length_replicate, List.length_set] <;> omega)) only [Sall,evalOp,init,binE,binI,unE,convE,okNil,builtE,gv,TD.isAgg,resV,↓reduceIte,Nat.reduceEqDiff,reduceCtorEq,Nat.reduceAdd,Nat.reduceMul,Nat.reduceLeDiff,quietOp,blindOp,Int.reduceEq,Int.reduceLT,Int.reduceLE,Nat.reduceLT,tiA,tiXA, eC]
      refine draw_id (by kernel_rfl) (by kernel_rfl) ?_
      try simp (disch := first | omega | (simp only [ints_length, List.length_replicate, List.length_set] <;> omega)) only [Sall,evalOp,init,binE,binI,unE,convE,okNil,builtE,gv,TD.isAgg,resV,↓reduceIte,Nat.reduceEqDiff,reduceCtorEq,Nat.reduceAdd,Nat.reduceMul,Nat.reduceLeDiff,quietOp,blindOp,Int.reduceEq,Int.reduceLT,Int.reduceLE,Nat.reduceLT,tiA,tiXA, eC]
  · rintro t H' ⟨rfl, h3, h4, h5, h6, h9, h10, h120⟩
    obtain hE | hE : evB q R = true ∨ evB q R = false := by cases evB q R <;> simp
    · obtain ⟨n, rfl, h4', h16, h20, hall⟩ := evB_at hE
      have eC : evC (n : Int) R = 0 := by unfold evC; rw [if_pos hE]
      have ep : poL (n : Int) R = tabM n wP R := by unfold poL; rw [if_pos hE, Int.toNat_natCast]
      rw [eC] at h10
      have c0 : ((0 : Int) != 0) = false := rfl
      have lR := rxz.len
      have hlR : ∀ r ∈ R, r.length ≤ 16 := fun r hr => by
        obtain ⟨j, hj, e⟩ := List.getElem_of_mem hr
        have := (hall j hj).2.1
        rw [List.getD_eq_getElem?_getD, List.getElem?_eq_getElem hj] at this
        rw [← e]; exact this
      have hsl : ∀ j, ((R.take j).map List.length).sum ≤ 16 * 20 := fun j => sumLen_le 16 hlR h20 j
      try simp (disch := first | omega | (simp only [ints_length, List.length_replicate, List.length_set] <;> omega)) only [Sall,evalOp,init,binE,binI,unE,convE,okNil,builtE,gv,TD.isAgg,resV,↓reduceIte,Nat.reduceEqDiff,reduceCtorEq,Nat.reduceAdd,Nat.reduceMul,Nat.reduceLeDiff,quietOp,blindOp,Int.reduceEq,Int.reduceLT,Int.reduceLE,Nat.reduceLT,tiA,tiXA, h10, h120, c0]
      refine awp_loop (fun z t H2 => H2 = H' ∧ ∃ j : Nat, z = R.length - j ∧ j ≤ R.length ∧ t 20 = .int .i64 j ∧ t 19 = .int .i64 (((R.take j).map List.length).sum : Nat) ∧ t 3 = .pointer (some ⟨ei, 0, none⟩) ∧ t 4 = .int .i64 kind ∧ t 5 = v5 ∧ t 6 = .int .i64 (oiC n R kind) ∧ t 9 = v9) R.length ?_ ?_
      · refine ⟨rfl, 0, by omega, by omega, ?_⟩
        try simp (disch := first | omega | (simp only [ints_length, List.length_replicate, List.length_set] <;> omega)) only [Sall,evalOp,init,binE,binI,unE,convE,okNil,builtE,gv,TD.isAgg,resV,↓reduceIte,Nat.reduceEqDiff,reduceCtorEq,Nat.reduceAdd,Nat.reduceMul,Nat.reduceLeDiff,quietOp,blindOp,Int.reduceEq,Int.reduceLT,Int.reduceLE,Nat.reduceLT,tiA,tiXA, Int.natCast_zero, List.take_zero, List.map_nil, List.sum_nil]
        exact ⟨h3, h4, h5, h6, h9⟩
      · rintro z t H2 ⟨rfl, j, hz, hj, h20', h19, h3, h4, h5, h6, h9⟩
        try simp (disch := first | omega | (simp only [ints_length, List.length_replicate, List.length_set] <;> omega)) only [Sall,evalOp,init,binE,binI,unE,convE,okNil,builtE,gv,TD.isAgg,resV,↓reduceIte,Nat.reduceEqDiff,reduceCtorEq,Nat.reduceAdd,Nat.reduceMul,Nat.reduceLeDiff,quietOp,blindOp,Int.reduceEq,Int.reduceLT,Int.reduceLE,Nat.reduceLT,tiA,tiXA, h20', h3, g3z, hx, builtE, lR]
        refine condC_dec (fun hh => ?_) (fun hh => ?_)
        · obtain ⟨ci, co, cu, cc, cr, yv, m, ex, c1, c2, c3, c4⟩ := rxz.get (show j < R.length by omega)
          have hm := c3.lenK1
          have ly := c3.len
          have es := sumLen_step R j (by omega)
          have b1 := hsl (j + 1)
          try simp (disch := first | omega | (simp only [ints_length, List.length_replicate, List.length_set] <;> omega)) only [Sall,evalOp,init,binE,binI,unE,convE,okNil,builtE,gv,TD.isAgg,resV,↓reduceIte,Nat.reduceEqDiff,reduceCtorEq,Nat.reduceAdd,Nat.reduceMul,Nat.reduceLeDiff,quietOp,blindOp,Int.reduceEq,Int.reduceLT,Int.reduceLE,Nat.reduceLT,tiA,tiXA, h20', h19, h3, g3z, ex, c1, c2, c4, builtE, ly, w64]
          exact ⟨by omega, R.length - (j + 1), by omega, j + 1, rfl, by omega, by omega, by omega, h4, h5, h6, h9⟩
        · have hje : j = R.length := by omega
          rw [hje, List.take_length] at h19
          have hsl2 := hsl R.length
          rw [List.take_length] at hsl2
          obtain ⟨S, eS⟩ : ∃ S, S = ((R.map List.length).sum) := ⟨_, rfl⟩
          rw [← eS] at h19 hsl2
          refine Holds.mp ?_
          try simp (disch := first | omega | (simp only [ints_length, List.length_replicate, List.length_set] <;> omega)) only [Sall,evalOp,init,binE,binI,unE,convE,okNil,builtE,gv,TD.isAgg,resV,↓reduceIte,Nat.reduceEqDiff,reduceCtorEq,Nat.reduceAdd,Nat.reduceMul,Nat.reduceLeDiff,quietOp,blindOp,Int.reduceEq,Int.reduceLT,Int.reduceLE,Nat.reduceLT,tiA,tiXA, true_and]
          have hR3 : ∀ i, i < R.length → (R.getD i []).length % 4 = 0 ∧ (R.getD i []).length ≤ 16 ∧ ∀ x ∈ R.getD i [], 0 ≤ x ∧ x < (n : Int) := fun i hi => ⟨(hall i hi).1, (hall i hi).2.1, (hall i hi).2.2.1⟩
          have F1 : TabF n S (tabM n wP R) := tabF (by decide) (by decide) h20 hR3 (by rw [← eS]; show 4 * S = 2 * 2 * S; omega)
          rw [ep] at r9z
          obtain ⟨M1, eM1⟩ : ∃ M1, M1 = tabM n wP R := ⟨_, rfl⟩
          rw [← eM1] at F1 r9z
          have l9 := r9z.len
          rw [F1.sq.1] at l9
          have hM1 := F1.sq.1
          have k3 := h3
          have k4 := h4
          have k5 := h5
          have k6 := h6
          have k9 := h9
          have k19 := h19
          refine awp_loop (fun z t Hx => H2 = Hx ∧ ∃ a : Nat, z = n - a ∧ a ≤ n ∧ t 23 = .int .i64 a ∧ t 21 = .int .i64 ((M1.take a).map List.sum).sum ∧ t 9 = v9 ∧ t 4 = .int .i64 kind ∧ t 5 = v5 ∧ t 6 = .int .i64 (oiC n R kind) ∧ t 19 = .int .i64 S ∧ t 22 = .int .i64 0) n ?_ ?_
          · refine ⟨rfl, 0, by omega, by omega, ?_⟩
            try simp (disch := first | omega | (simp only [ints_length, List.length_replicate, List.length_set] <;> omega)) only [Sall,evalOp,init,binE,binI,unE,convE,okNil,builtE,gv,TD.isAgg,resV,↓reduceIte,Nat.reduceEqDiff,reduceCtorEq,Nat.reduceAdd,Nat.reduceMul,Nat.reduceLeDiff,quietOp,blindOp,Int.reduceEq,Int.reduceLT,Int.reduceLE,Nat.reduceLT,tiA,tiXA, Int.natCast_zero, List.take_zero, List.map_nil, List.sum_nil]
            exact ⟨k9, k4, k5, k6, k19⟩
          · rintro z t Hx ⟨rfl, a, hz, ha, hA, hS, k9, k4, k5, k6, k19, k22⟩
            try simp (disch := first | omega | (simp only [ints_length, List.length_replicate, List.length_set] <;> omega)) only [Sall,evalOp,init,binE,binI,unE,convE,okNil,builtE,gv,TD.isAgg,resV,↓reduceIte,Nat.reduceEqDiff,reduceCtorEq,Nat.reduceAdd,Nat.reduceMul,Nat.reduceLeDiff,quietOp,blindOp,Int.reduceEq,Int.reduceLT,Int.reduceLE,Nat.reduceLT,tiA,tiXA, hA, k9, builtE, l9]
            refine condC_dec (fun hh => ?_) (fun hh => ?_)
            · have han : a < n := by omega
              obtain ⟨ci, co, cu, cc, cr, yv, m, ex, c1, c2, c3, c4⟩ := r9z.get (show a < M1.length by omega)
              have hm := c3.lenK1
              have hra := F1.sq.2 a han
              have b0 := sumS_bound F1.sq F1.rng (by omega) a (by omega)
              have b1 := sumS_bound F1.sq F1.rng (by omega) (a + 1) (by omega)
              have es := sumS_step M1 a (by omega)
              try simp (disch := first | omega | (simp only [ints_length, List.length_replicate, List.length_set] <;> omega)) only [Sall,evalOp,init,binE,binI,unE,convE,okNil,builtE,gv,TD.isAgg,resV,↓reduceIte,Nat.reduceEqDiff,reduceCtorEq,Nat.reduceAdd,Nat.reduceMul,Nat.reduceLeDiff,quietOp,blindOp,Int.reduceEq,Int.reduceLT,Int.reduceLE,Nat.reduceLT,tiA,tiXA, hA, hS, k9, ex, c1, c2, c4]
              refine ⟨by omega, ?_⟩
              refine (sum_c yv m (M1.getD a []) _ (by omega) c3 (F1.rng a han)).to ?_
              refine Holds.mp ?_
              try simp (disch := first | omega | (simp only [ints_length, List.length_replicate, List.length_set] <;> omega)) only [Sall,evalOp,init,binE,binI,unE,convE,okNil,builtE,gv,TD.isAgg,resV,↓reduceIte,Nat.reduceEqDiff,reduceCtorEq,Nat.reduceAdd,Nat.reduceMul,Nat.reduceLeDiff,quietOp,blindOp,Int.reduceEq,Int.reduceLT,Int.reduceLE,Nat.reduceLT,tiA,tiXA, hA, hS, k9, ← es, w64]
              refine awp_loop (fun z' t Hy => H2 = Hy ∧ ∃ b : Nat, z' = n - b ∧ b ≤ n ∧ t 24 = .int .i64 b ∧ t 23 = .int .i64 a ∧ t 21 = .int .i64 ((M1.take (a + 1)).map List.sum).sum ∧ t 9 = v9 ∧ t 4 = .int .i64 kind ∧ t 5 = v5 ∧ t 6 = .int .i64 (oiC n R kind) ∧ t 19 = .int .i64 S ∧ t 22 = .int .i64 0) n ?_ ?_
              · refine ⟨rfl, 0, by omega, by omega, ?_⟩
                try simp (disch := first | omega | (simp only [ints_length, List.length_replicate, List.length_set] <;> omega)) only [Sall,evalOp,init,binE,binI,unE,convE,okNil,builtE,gv,TD.isAgg,resV,↓reduceIte,Nat.reduceEqDiff,reduceCtorEq,Nat.reduceAdd,Nat.reduceMul,Nat.reduceLeDiff,quietOp,blindOp,Int.reduceEq,Int.reduceLT,Int.reduceLE,Nat.reduceLT,tiA,tiXA, Int.natCast_zero, hA, k9]
                exact ⟨k4, k5, k6, k19, k22⟩
              · rintro z' t Hy ⟨rfl, b, hz', hb, hB, hA, hS, k9, k4, k5, k6, k19, k22⟩
                try simp (disch := first | omega | (simp only [ints_length, List.length_replicate, List.length_set] <;> omega)) only [Sall,evalOp,init,binE,binI,unE,convE,okNil,builtE,gv,TD.isAgg,resV,↓reduceIte,Nat.reduceEqDiff,reduceCtorEq,Nat.reduceAdd,Nat.reduceMul,Nat.reduceLeDiff,quietOp,blindOp,Int.reduceEq,Int.reduceLT,Int.reduceLE,Nat.reduceLT,tiA,tiXA, hB, k9, builtE, l9]
                refine condC_dec (fun hh2 => ?_) (fun hh2 => ?_)
                · have hbn : b < n := by omega
                  obtain ⟨di, do_, du, dc, dr, zv, m', ex2, d1, d2, d3, d4⟩ := r9z.get (show b < M1.length by omega)
                  rw [ex] at ex2
                  cases ex2
                  rw [c1] at d1
                  cases d1
                  have hrb := F1.sq.2 b hbn
                  have hm' := d3.lenK1
                  obtain ⟨pi, po, pu, pc, pr, ey, p1, p2, p3, p4⟩ := c3.get (by omega)
                  obtain ⟨qi, qo, qu, qc, qr, ez, q1, q2, q3, q4⟩ := d3.get (by omega)
                  have p5 := p3 b (by omega)
                  have q5 := q3 a (by omega)
                  have e9 : (((M1.getD a []).getD b 0) != ((M1.getD b []).getD a 0)) = false := by rw [F1.sym a b han hbn]; exact bne_self_eq_false _
                  try simp (disch := first | omega | (simp only [ints_length, List.length_replicate, List.length_set] <;> omega)) only [Sall,evalOp,init,binE,binI,unE,convE,okNil,builtE,gv,TD.isAgg,resV,↓reduceIte,Nat.reduceEqDiff,reduceCtorEq,Nat.reduceAdd,Nat.reduceMul,Nat.reduceLeDiff,quietOp,blindOp,Int.reduceEq,Int.reduceLT,Int.reduceLE,Nat.reduceLT,tiA,tiXA, true_and]
                  refine draw_id (by kernel_rfl) (by kernel_rfl) ?_
                  try simp (disch := first | omega | (simp only [ints_length, List.length_replicate, List.length_set] <;> omega)) only [Sall,evalOp,init,binE,binI,unE,convE,okNil,builtE,gv,TD.isAgg,resV,↓reduceIte,Nat.reduceEqDiff,reduceCtorEq,Nat.reduceAdd,Nat.reduceMul,Nat.reduceLeDiff,quietOp,blindOp,Int.reduceEq,Int.reduceLT,Int.reduceLE,Nat.reduceLT,tiA,tiXA, hA, hB, k9, ex, c1, c2, c4, d2, d4, ey, ez, p1, p5, q1, q5, e9, w64]
                  (repeat refine And.intro (by omega) ?_)
                  try simp (disch := first | omega | (simp only [ints_length, List.length_replicate, List.length_set] <;> omega)) only [Sall,evalOp,init,binE,binI,unE,convE,okNil,builtE,gv,TD.isAgg,resV,↓reduceIte,Nat.reduceEqDiff,reduceCtorEq,Nat.reduceAdd,Nat.reduceMul,Nat.reduceLeDiff,quietOp,blindOp,Int.reduceEq,Int.reduceLT,Int.reduceLE,Nat.reduceLT,tiA,tiXA, hA, hB, k9, ex, c1, c2, c4, d2, d4, ey, ez, p1, p5, q1, q5, e9, w64]
                  (repeat refine And.intro (by omega) ?_)
                  exact ⟨n - (b + 1), by omega, b + 1, rfl, by omega, by omega, hS, k4, k5, k6, k19, k22⟩
                · try simp (disch := first | omega | (simp only [ints_length, List.length_replicate, List.length_set] <;> omega)) only [Sall,evalOp,init,binE,binI,unE,convE,okNil,builtE,gv,TD.isAgg,resV,↓reduceIte,Nat.reduceEqDiff,reduceCtorEq,Nat.reduceAdd,Nat.reduceMul,Nat.reduceLeDiff,quietOp,blindOp,Int.reduceEq,Int.reduceLT,Int.reduceLE,Nat.reduceLT,tiA,tiXA, hA, w64]
                  exact ⟨n - (a + 1), by omega, a + 1, rfl, by omega, by omega, hS, k9, k4, k5, k6, k19, k22⟩
            · have hae : a = n := by omega
              rw [hae, List.take_of_length_le (Nat.le_of_eq F1.sq.1), F1.tot] at hS
              refine Holds.mp ?_
              try simp (disch := first | omega | (simp only [ints_length, List.length_replicate, List.length_set] <;> omega)) only [Sall,evalOp,init,binE,binI,unE,convE,okNil,builtE,gv,TD.isAgg,resV,↓reduceIte,Nat.reduceEqDiff,reduceCtorEq,Nat.reduceAdd,Nat.reduceMul,Nat.reduceLeDiff,quietOp,blindOp,Int.reduceEq,Int.reduceLT,Int.reduceLE,Nat.reduceLT,tiA,tiXA, true_and]
              by_cases hk : 0 ≤ kind ∧ kind ≤ 2
              · have eO : oiC (n : Int) R kind = 0 := by unfold oiC; rw [if_pos hE, if_pos (decide_eq_true hk)]
                have e5 : oiL (n : Int) R kind = tabM n (wK kind) R := by unfold oiL; rw [if_pos ⟨hE, hk⟩, Int.toNat_natCast]
                obtain ⟨c, hcS, F2⟩ : ∃ c, ((kind = 0 ∧ c = 2 * S) ∨ (kind ≠ 0 ∧ c = S)) ∧ TabF n c (tabM n (wK kind) R) := by
                  have h : kind = 0 ∨ kind = 1 ∨ kind = 2 := by omega
                  rcases h with rfl | rfl | rfl
                  · exact ⟨2 * S, .inl ⟨rfl, rfl⟩, tabF (ws := wK 0) (by decide) (by decide) h20 hR3 (by rw [← eS]; show 4 * (2 * S) = 2 * 4 * S; omega)⟩
                  · exact ⟨S, .inr ⟨by decide, rfl⟩, tabF (ws := wK 1) (by decide) (by decide) h20 hR3 (by rw [← eS]; show 4 * S = 2 * 2 * S; omega)⟩
                  · exact ⟨S, .inr ⟨by decide, rfl⟩, tabF (ws := wK 2) (by decide) (by decide) h20 hR3 (by rw [← eS]; show 4 * S = 2 * 2 * S; omega)⟩
                rw [e5] at r5z
                obtain ⟨M2, eM2⟩ : ∃ M2, M2 = tabM n (wK kind) R := ⟨_, rfl⟩
                rw [← eM2] at F2 r5z
                have l5 := r5z.len
                rw [F2.sq.1] at l5
                have hM2 := F2.sq.1
                rw [eO] at k6
                have z0 : ((0 : Int) != 0) = false := rfl
                have k21 := hS
                try simp (disch := first | omega | (simp only [ints_length, List.length_replicate, List.length_set] <;> omega)) only [Sall,evalOp,init,binE,binI,unE,convE,okNil,builtE,gv,TD.isAgg,resV,↓reduceIte,Nat.reduceEqDiff,reduceCtorEq,Nat.reduceAdd,Nat.reduceMul,Nat.reduceLeDiff,quietOp,blindOp,Int.reduceEq,Int.reduceLT,Int.reduceLE,Nat.reduceLT,tiA,tiXA, k6, z0]
                refine awp_loop (fun z t Hx => H2 = Hx ∧ ∃ a : Nat, z = n - a ∧ a ≤ n ∧ t 25 = .int .i64 a ∧ t 22 = .int .i64 ((M2.take a).map List.sum).sum ∧ t 5 = v5 ∧ t 4 = .int .i64 kind ∧ t 19 = .int .i64 S ∧ t 21 = .int .i64 S) n ?_ ?_
                · refine ⟨rfl, 0, by omega, by omega, ?_⟩
                  try simp (disch := first | omega | (simp only [ints_length, List.length_replicate, List.length_set] <;> omega)) only [Sall,evalOp,init,binE,binI,unE,convE,okNil,builtE,gv,TD.isAgg,resV,↓reduceIte,Nat.reduceEqDiff,reduceCtorEq,Nat.reduceAdd,Nat.reduceMul,Nat.reduceLeDiff,quietOp,blindOp,Int.reduceEq,Int.reduceLT,Int.reduceLE,Nat.reduceLT,tiA,tiXA, Int.natCast_zero, List.take_zero, List.map_nil, List.sum_nil]
                  exact ⟨k22, k5, k4, k19, k21⟩
                · rintro z t Hx ⟨rfl, a, hz, ha, hA, hS, k5, k4, k19, k21⟩
                  try simp (disch := first | omega | (simp only [ints_length, List.length_replicate, List.length_set] <;> omega)) only [Sall,evalOp,init,binE,binI,unE,convE,okNil,builtE,gv,TD.isAgg,resV,↓reduceIte,Nat.reduceEqDiff,reduceCtorEq,Nat.reduceAdd,Nat.reduceMul,Nat.reduceLeDiff,quietOp,blindOp,Int.reduceEq,Int.reduceLT,Int.reduceLE,Nat.reduceLT,tiA,tiXA, hA, k5, builtE, l5]
                  refine condC_dec (fun hh => ?_) (fun hh => ?_)
                  · have han : a < n := by omega
                    obtain ⟨ci, co, cu, cc, cr, yv, m, ex, c1, c2, c3, c4⟩ := r5z.get (show a < M2.length by omega)
                    have hm := c3.lenK1
                    have hra := F2.sq.2 a han
                    have b0 := sumS_bound F2.sq F2.rng (by omega) a (by omega)
                    have b1 := sumS_bound F2.sq F2.rng (by omega) (a + 1) (by omega)
                    have es := sumS_step M2 a (by omega)
                    try simp (disch := first | omega | (simp only [ints_length, List.length_replicate, List.length_set] <;> omega)) only [Sall,evalOp,init,binE,binI,unE,convE,okNil,builtE,gv,TD.isAgg,resV,↓reduceIte,Nat.reduceEqDiff,reduceCtorEq,Nat.reduceAdd,Nat.reduceMul,Nat.reduceLeDiff,quietOp,blindOp,Int.reduceEq,Int.reduceLT,Int.reduceLE,Nat.reduceLT,tiA,tiXA, hA, hS, k5, ex, c1, c2, c4]
                    refine ⟨by omega, ?_⟩
                    refine (sum_c yv m (M2.getD a []) _ (by omega) c3 (F2.rng a han)).to ?_
                    refine Holds.mp ?_
                    try simp (disch := first | omega | (simp only [ints_length, List.length_replicate, List.length_set] <;> omega)) only [Sall,evalOp,init,binE,binI,unE,convE,okNil,builtE,gv,TD.isAgg,resV,↓reduceIte,Nat.reduceEqDiff,reduceCtorEq,Nat.reduceAdd,Nat.reduceMul,Nat.reduceLeDiff,quietOp,blindOp,Int.reduceEq,Int.reduceLT,Int.reduceLE,Nat.reduceLT,tiA,tiXA, hA, hS, k5, ← es, w64]
                    refine awp_loop (fun z' t Hy => H2 = Hy ∧ ∃ b : Nat, z' = n - b ∧ b ≤ n ∧ t 26 = .int .i64 b ∧ t 25 = .int .i64 a ∧ t 22 = .int .i64 ((M2.take (a + 1)).map List.sum).sum ∧ t 5 = v5 ∧ t 4 = .int .i64 kind ∧ t 19 = .int .i64 S ∧ t 21 = .int .i64 S) n ?_ ?_
                    · refine ⟨rfl, 0, by omega, by omega, ?_⟩
                      try simp (disch := first | omega | (simp only [ints_length, List.length_replicate, List.length_set] <;> omega)) only [Sall,evalOp,init,binE,binI,unE,convE,okNil,builtE,gv,TD.isAgg,resV,↓reduceIte,Nat.reduceEqDiff,reduceCtorEq,Nat.reduceAdd,Nat.reduceMul,Nat.reduceLeDiff,quietOp,blindOp,Int.reduceEq,Int.reduceLT,Int.reduceLE,Nat.reduceLT,tiA,tiXA, Int.natCast_zero, hA, k5]
                      exact ⟨k4, k19, k21⟩
                    · rintro z' t Hy ⟨rfl, b, hz', hb, hB, hA, hS, k5, k4, k19, k21⟩
                      try simp (disch := first | omega | (simp only [ints_length, List.length_replicate, List.length_set] <;> omega)) only [Sall,evalOp,init,binE,binI,unE,convE,okNil,builtE,gv,TD.isAgg,resV,↓reduceIte,Nat.reduceEqDiff,reduceCtorEq,Nat.reduceAdd,Nat.reduceMul,Nat.reduceLeDiff,quietOp,blindOp,Int.reduceEq,Int.reduceLT,Int.reduceLE,Nat.reduceLT,tiA,tiXA, hB, k5, builtE, l5]
                      refine condC_dec (fun hh2 => ?_) (fun hh2 => ?_)
                      · have hbn : b < n := by omega
                        obtain ⟨di, do_, du, dc, dr, zv, m', ex2, d1, d2, d3, d4⟩ := r5z.get (show b < M2.length by omega)
                        rw [ex] at ex2
                        cases ex2
                        rw [c1] at d1
                        cases d1
                        have hrb := F2.sq.2 b hbn
                        have hm' := d3.lenK1
                        obtain ⟨pi, po, pu, pc, pr, ey, p1, p2, p3, p4⟩ := c3.get (by omega)
                        obtain ⟨qi, qo, qu, qc, qr, ez, q1, q2, q3, q4⟩ := d3.get (by omega)
                        have p5 := p3 b (by omega)
                        have q5 := q3 a (by omega)
                        have e9 : (((M2.getD a []).getD b 0) != ((M2.getD b []).getD a 0)) = false := by rw [F2.sym a b han hbn]; exact bne_self_eq_false _
                        try simp (disch := first | omega | (simp only [ints_length, List.length_replicate, List.length_set] <;> omega)) only [Sall,evalOp,init,binE,binI,unE,convE,okNil,builtE,gv,TD.isAgg,resV,↓reduceIte,Nat.reduceEqDiff,reduceCtorEq,Nat.reduceAdd,Nat.reduceMul,Nat.reduceLeDiff,quietOp,blindOp,Int.reduceEq,Int.reduceLT,Int.reduceLE,Nat.reduceLT,tiA,tiXA, true_and]
                        refine draw_id (by kernel_rfl) (by kernel_rfl) ?_
                        try simp (disch := first | omega | (simp only [ints_length, List.length_replicate, List.length_set] <;> omega)) only [Sall,evalOp,init,binE,binI,unE,convE,okNil,builtE,gv,TD.isAgg,resV,↓reduceIte,Nat.reduceEqDiff,reduceCtorEq,Nat.reduceAdd,Nat.reduceMul,Nat.reduceLeDiff,quietOp,blindOp,Int.reduceEq,Int.reduceLT,Int.reduceLE,Nat.reduceLT,tiA,tiXA, hA, hB, k5, ex, c1, c2, c4, d2, d4, ey, ez, p1, p5, q1, q5, e9, w64]
                        (repeat refine And.intro (by omega) ?_)
                        try simp (disch := first | omega | (simp only [ints_length, List.length_replicate, List.length_set] <;> omega)) only [Sall,evalOp,init,binE,binI,unE,convE,okNil,builtE,gv,TD.isAgg,resV,↓reduceIte,Nat.reduceEqDiff,reduceCtorEq,Nat.reduceAdd,Nat.reduceMul,Nat.reduceLeDiff,quietOp,blindOp,Int.reduceEq,Int.reduceLT,Int.reduceLE,Nat.reduceLT,tiA,tiXA, hA, hB, k5, ex, c1, c2, c4, d2, d4, ey, ez, p1, p5, q1, q5, e9, w64]
                        (repeat refine And.intro (by omega) ?_)
                        exact ⟨n - (b + 1), by omega, b + 1, rfl, by omega, by omega, hS, k4, k19, k21⟩
                      · try simp (disch := first | omega | (simp only [ints_length, List.length_replicate, List.length_set] <;> omega)) only [Sall,evalOp,init,binE,binI,unE,convE,okNil,builtE,gv,TD.isAgg,resV,↓reduceIte,Nat.reduceEqDiff,reduceCtorEq,Nat.reduceAdd,Nat.reduceMul,Nat.reduceLeDiff,quietOp,blindOp,Int.reduceEq,Int.reduceLT,Int.reduceLE,Nat.reduceLT,tiA,tiXA, hA, w64]
                        exact ⟨n - (a + 1), by omega, a + 1, rfl, by omega, by omega, hS, k5, k4, k19, k21⟩
                  · have hae : a = n := by omega
                    rw [hae, List.take_of_length_le (Nat.le_of_eq F2.sq.1), F2.tot] at hS
                    refine Holds.mp ?_
                    try simp (disch := first | omega | (simp only [ints_length, List.length_replicate, List.length_set] <;> omega)) only [Sall,evalOp,init,binE,binI,unE,convE,okNil,builtE,gv,TD.isAgg,resV,↓reduceIte,Nat.reduceEqDiff,reduceCtorEq,Nat.reduceAdd,Nat.reduceMul,Nat.reduceLeDiff,quietOp,blindOp,Int.reduceEq,Int.reduceLT,Int.reduceLE,Nat.reduceLT,tiA,tiXA, true_and]
                    have eSS : ((S : Int) == (S : Int)) = true := beq_self_eq_true _
                    rcases hcS with ⟨e1, e2⟩ | ⟨e1, e2⟩
                    · have q1 : (kind == 0) = true := beq_iff_eq.2 e1
                      have q2 : ((c : Int) == 2 * (S : Int)) = true := beq_iff_eq.2 (by omega)
                      try simp (disch := first | omega | (simp only [ints_length, List.length_replicate, List.length_set] <;> omega)) only [Sall,evalOp,init,binE,binI,unE,convE,okNil,builtE,gv,TD.isAgg,resV,↓reduceIte,Nat.reduceEqDiff,reduceCtorEq,Nat.reduceAdd,Nat.reduceMul,Nat.reduceLeDiff,quietOp,blindOp,Int.reduceEq,Int.reduceLT,Int.reduceLE,Nat.reduceLT,tiA,tiXA, k4, q1, k21, k19, eSS, hS, q2, w64]
                    · have q1 : (kind == 0) = false := beq_eq_false_iff_ne.2 e1
                      have q2 : ((c : Int) == (S : Int)) = true := beq_iff_eq.2 (by omega)
                      try simp (disch := first | omega | (simp only [ints_length, List.length_replicate, List.length_set] <;> omega)) only [Sall,evalOp,init,binE,binI,unE,convE,okNil,builtE,gv,TD.isAgg,resV,↓reduceIte,Nat.reduceEqDiff,reduceCtorEq,Nat.reduceAdd,Nat.reduceMul,Nat.reduceLeDiff,quietOp,blindOp,Int.reduceEq,Int.reduceLT,Int.reduceLE,Nat.reduceLT,tiA,tiXA, k4, q1, k21, k19, eSS, hS, q2, w64]
              · have eO : oiC (n : Int) R kind = 2 := by unfold oiC; rw [if_pos hE, if_neg (by rw [decide_eq_false hk]; simp)]
                rw [eO] at k6
                have z2 : ((2 : Int) != 0) = true := rfl
                have eSS : ((S : Int) == (S : Int)) = true := beq_self_eq_true _
                try simp (disch := first | omega | (simp only [ints_length, List.length_replicate, List.length_set] <;> omega)) only [Sall,evalOp,init,binE,binI,unE,convE,okNil,builtE,gv,TD.isAgg,resV,↓reduceIte,Nat.reduceEqDiff,reduceCtorEq,Nat.reduceAdd,Nat.reduceMul,Nat.reduceLeDiff,quietOp,blindOp,Int.reduceEq,Int.reduceLT,Int.reduceLE,Nat.reduceLT,tiA,tiXA, k6, z2, hS, k19, eSS]
    · have eC : evC q R = 1 := by unfold evC; rw [if_neg (by rw [hE]; simp)]
      have ep : poL q R = [] := by unfold poL; rw [if_neg (by rw [hE]; simp)]
      rw [eC] at h10
      rw [ep] at r9z
      have l9 := r9z.len
      have c1 : ((1 : Int) != 0) = true := rfl
      have c2 : (((([] : List (List Int)).length : Nat) : Int) == 0) = true := rfl
      try simp (disch := first | omega | (simp only [ints_length, List.length_replicate, List.length_set] <;> omega)) only [Sall,evalOp,init,binE,binI,unE,convE,okNil,builtE,gv,TD.isAgg,resV,↓reduceIte,Nat.reduceEqDiff,reduceCtorEq,Nat.reduceAdd,Nat.reduceMul,Nat.reduceLeDiff,quietOp,blindOp,Int.reduceEq,Int.reduceLT,Int.reduceLE,Nat.reduceLT,tiA,tiXA, h10, h120, c1, h9, builtE, l9, c2]
      rfl
end Go.Proofs.Ytgkmdfjjlghecaa.A
end

section
set_option linter.unusedVariables false
set_option maxRecDepth 100000
namespace Go.Proofs.Ytgkmdfjjlghecaa.A
open Go Go.Abs Go.RowKit
section
variable {K : Type} {enc : TypeId × Value → K} {W : World} {base b0 : Nat} {spare : Nat → Bool} {held : Bool}

end
end Go.Proofs.Ytgkmdfjjlghecaa.A
end

section
set_option linter.unusedVariables false
set_option maxRecDepth 100000
namespace Go.Proofs.Ytgkmdfjjlghecaa.A
open Go Go.Abs Go.RowKit
section
variable {K : Type} {enc : TypeId × Value → K} {W : World} {b0 : Nat} {spare : Nat → Bool} {held : Bool} {v : Value} {d : DataW K} {p : List MemPlace}

theorem cell_of_val {t e : TypeId} (hu : Try.prog.underlying t = some (.slice e)) (hok : Value.okWide Try.prog W .any b0 t v) : Cell.okWide Try.prog W .any 0 t v := by
  unfold Value.okWide at hok
  rw [hu] at hok
  exact hok

theorem cells_slice1 {t e : TypeId} (hu : Try.prog.underlying t = some (.slice e)) (hok : Cell.okWide Try.prog W .any 0 t v) : v.cells.toList = [v] := by
  rcases ok_slice_cell hu hok with rfl | ⟨b, o, n, c, rfl, _⟩ <;> rfl

end
end Go.Proofs.Ytgkmdfjjlghecaa.A
end

section
set_option linter.unusedVariables false
set_option maxRecDepth 100000
namespace Go.Proofs.Ytgkmdfjjlghecaa.A
open Go Go.Abs Go.RowKit
theorem uByte : Try.prog.underlying 5 = some (.int .u8) := by kernel_rfl
theorem uBytes : Try.prog.underlying 62 = some (.slice 5) := by kernel_rfl
theorem cByte : Try.prog.cellsOf 5 = 1 := by kernel_rfl
section
variable {K : Type} {enc : TypeId × Value → K} {W : World} {b0 : Nat} {spare : Nat → Bool} {held : Bool} {v : Value} {d : DataW K} {p : List MemPlace}
theorem open_B (h : DataW.Trod enc Try.prog W 0 spare held 62 v d p) (hok : Value.okWide Try.prog W .any b0 62 v) :
    ∃ nb, CodeOk (given W) v nb ∧ V1 id W.heap.size W v v ∧ nb ≤ 9223372036854775807 := by
  have h0 := cell_of_val uBytes hok
  obtain ⟨fuel, h⟩ := h
  rw [cells_slice1 uBytes h0] at h
  rcases ok_slice_cell uBytes h0 with rfl | ⟨b, o, n, c, rfl, hb, hn⟩
  · exact ⟨0, .inl ⟨rfl, _, _, rfl⟩, .scal _ rfl, by omega⟩
  · refine ⟨n, ?_, V1.sle (ρ := id) b o n c hb, hn⟩
    rcases DataW.trod_slice uBytes h with ⟨h0, _⟩ | ⟨a, len, cap, elems, rest, m, _, hcs, _, _, _, _, hlen, hel, _, _⟩
    · simp at h0
    · simp only [List.cons.injEq, Value.slice.injEq, Option.some.injEq, and_true] at hcs
      obtain ⟨rfl, rfl, rfl⟩ := hcs
      have each : ∀ j, j < n → ∃ z, W.cell? ⟨b, o + j, none⟩ = some (.int .u8 z) ∧ 0 ≤ z ∧ z ≤ 255 := by
        intro j hj
        have h1 := hel j hj
        rw [List.getElem?_eq_getElem (by omega), cByte, Option.bind_eq_some_iff] at h1
        obtain ⟨cs', hc1, hc2⟩ := h1
        obtain ⟨_, hl, hc⟩ := World.cells?_some hc1
        have h2 := hc 0 (by omega)
        obtain ⟨z, hz, _, hw⟩ := DataW.trod_int uByte hc2
        refine ⟨z, ?_, ?_⟩
        · rw [hz] at h2
          rw [Addr.add_lit, Addr.add_lit] at h2
          simpa using h2
        · unfold Lit.wf at hw
          simp only [Bool.and_eq_true, decide_eq_true_eq] at hw
          exact hw
      rcases Nat.eq_zero_or_pos n with h0 | h0
      · exact .inl ⟨h0, _, _, by rw [h0]⟩
      · refine .inr ⟨b, o, none, c, ⟨0, false, absRow W b⟩, rfl, ?_, fun j hj => ?_⟩
        · obtain ⟨z, hz, _⟩ := each 0 h0
          exact (given_cell hz).2.1
        · obtain ⟨z, hz, z1, z2⟩ := each j hj
          exact ⟨z, (given_cell hz).2.2, z1, z2⟩
end
end Go.Proofs.Ytgkmdfjjlghecaa.A
end
