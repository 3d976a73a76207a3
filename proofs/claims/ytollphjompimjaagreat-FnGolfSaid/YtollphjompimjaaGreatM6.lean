/- Draws: a schedule that is seldom none. And what follows. -/
import Derived.Test.YtollphjompimjaaGreatM5
set_option linter.unusedSimpArgs false
set_option linter.unusedVariables false
section
set_option maxRecDepth 100000
set_option maxHeartbeats 2000000
namespace Go.Proofs.YtollphjompimjaaGreat.A
open Go Go.Abs Go.RowKit
end Go.Proofs.YtollphjompimjaaGreat.A
end

section
set_option maxRecDepth 100000
set_option maxHeartbeats 2000000
namespace Go.Proofs.YtollphjompimjaaGreat.A
open Go Go.Abs Go.RowKit
end Go.Proofs.YtollphjompimjaaGreat.A
end

section
set_option maxRecDepth 100000
set_option maxHeartbeats 2000000
namespace Go.Proofs.YtollphjompimjaaGreat.A
open Go Go.Abs Go.RowKit
def EvL (ll : List (List Int)) : Prop := ll.length ≤ 64 ∧ ∀ r ∈ ll, r.length ≤ 64
theorem EvL.nil : EvL [] := ⟨by simp, by simp⟩
theorem EvL.app {ll mm : List (List Int)} (h : EvL ll) (k : EvL mm) (hl : ll.length + mm.length ≤ 64) : EvL (ll ++ mm) := ⟨by simp; omega, fun r hr => by
  rcases List.mem_append.1 hr with h1 | h1
  · exact h.2 r h1
  · exact k.2 r h1⟩
end Go.Proofs.YtollphjompimjaaGreat.A
end

section
set_option maxRecDepth 100000
set_option maxHeartbeats 2000000
namespace Go.Proofs.YtollphjompimjaaGreat.A
open Go Go.Abs Go.RowKit
theorem Dq.sees {cv : Value} {nb si : Nat} {H H' : AH} {L : List Th} (h : Dq cv nb si H H' L) (k : Nat) {Q : AH → Prop} (hk : L[k]? = some (.see Q)) : Q H' := by
  obtain ⟨B, b, o⟩ := h.ex
  exact o.sees k hk
theorem EvL.made {n m : Nat} {y : List Int} (hm : m ≤ 64) (hy : y.length ≤ 64) : EvL (madeL m y m) := ⟨by rw [madeL_length]; exact hm, fun r hr => by
  unfold madeL at hr
  rw [List.mem_map] at hr
  obtain ⟨i, _, rfl⟩ := hr
  rw [mdL_length]; exact hy⟩
end Go.Proofs.YtollphjompimjaaGreat.A
end

section
set_option maxRecDepth 100000
set_option maxHeartbeats 2000000
namespace Go.Proofs.YtollphjompimjaaGreat.A
open Go Go.Abs Go.RowKit
theorem Dq.seesX {cv : Value} {nb si : Nat} {H H' : AH} {L : List Th} (h : Dq cv nb si H H' L) (hsi : si < H.next) (k : Nat) {Q : AH → Prop} (hk : L[k]? = some (.see Q)) : ∀ H2, (∀ i r, H.next ≤ i → i ≠ si → H'.row i = some r → H2.row i = some r) → Q H2 := by
  obtain ⟨B, b, o⟩ := h.ex
  obtain ⟨S, hS, hp⟩ := o.at hk
  intro H2 h2
  exact hp H2 fun i r hi hr => h2 i r (by have := hS i hi; have := b.next; omega) (by have := hS i hi; have := b.next; omega) hr
theorem Dq.laterP {cv : Value} {nb si : Nat} {H H' : AH} {L : List Th} (h : Dq cv nb si H H' L) (hsi : si < H.next) (k : Nat) {p : Th} (hk : L[k]? = some p) : ∀ H2, (∀ i r, H.next ≤ i → i ≠ si → H'.row i = some r → H2.row i = some r) → ∃ S, p.p H2 S := by
  obtain ⟨B, b, o⟩ := h.ex
  obtain ⟨S, hS, hp⟩ := o.at hk
  intro H2 h2
  exact ⟨S, p.loc H' H2 S S (fun _ h => h) (fun i r hi hr => h2 i r (by have := hS i hi; have := b.next; omega) (by have := hS i hi; have := b.next; omega) hr) hp⟩
end Go.Proofs.YtollphjompimjaaGreat.A
end

section
set_option maxRecDepth 100000
set_option maxHeartbeats 2000000
namespace Go.Proofs.YtollphjompimjaaGreat.A
open Go Go.Abs Go.RowKit
theorem getD_memZ {α : Type} {l : List α} {j : Nat} (d : α) (h : j < l.length) : l.getD j d ∈ l := by
  rw [List.getD_eq_getElem?_getD, List.getElem?_eq_getElem h]; exact List.getElem_mem _
def GlL (ll : List (List Int)) : Prop := ll.length ≤ 6 ∧ ∀ r ∈ ll, r.length ≤ 1000
def DrawnG (cv : Value) (nb si : Nat) (H : AH) (v : Value) (H' : AH) : Prop :=
  ∃ (q g : Int) (u : Value) (ws : List Value) (ll : List (List Int)), v = .agg #[.int .i64 q, .int .i64 g, u] ∧ (0 ≤ q ∧ q ≤ 25) ∧ (0 ≤ g ∧ g ≤ 25) ∧ GlL ll ∧ Sld 1 u ll.length ∧ Dq cv nb si H H' [.see (Rc u ws ll)]
theorem Dq.sld {cv : Value} {nb si : Nat} {H H' : AH} {L : List Th} (h : Dq cv nb si H H' L) (k : Nat) {ty ty' : TypeId} {u : Value} {ll : List (List Int)} (hk : L[k]? = some (.sl2 (Value.int .i64) ty ty' u ll)) : Sld 1 u ll.length := by
  obtain ⟨B, b, o⟩ := h.ex
  obtain ⟨S, hS, hp⟩ := o.at hk
  rcases hp with ⟨_, rfl⟩ | ⟨i, vs, o, _, _, rfl, _⟩
  · exact .inl rfl
  · exact .inr (.inl ⟨i, 0, _, rfl⟩)
theorem Dq.sl2Rc {cv : Value} {nb si : Nat} {H H' : AH} {L : List Th} (h : Dq cv nb si H H' L) (k : Nat) {ty ty' : TypeId} {u : Value} {ll : List (List Int)} (hk : L[k]? = some (.sl2 (Value.int .i64) ty ty' u ll)) : ∃ ws, Dq cv nb si H H' [.see (Rc u ws ll)] := by
  obtain ⟨B, b, o⟩ := h.ex
  obtain ⟨ws, o'⟩ := o.sl2Rc k hk
  exact ⟨ws, ⟨⟨B, b, o'⟩⟩⟩
theorem sizes11 (t : T) (H : AH) (h : Nat) (e0 : t 71 = .slice (some ⟨h + 0, 0, some 1⟩) 2 2) (e1 : t 72 = .slice (some ⟨h + 1, 0, some 1⟩) 2 2) (e2 : t 73 = .slice (some ⟨h + 2, 0, some 1⟩) 2 2) (e3 : t 74 = .slice (some ⟨h + 3, 0, some 1⟩) 2 2) (e4 : t 75 = .slice (some ⟨h + 4, 0, some 1⟩) 2 2) (e5 : t 76 = .slice (some ⟨h + 5, 0, some 1⟩) 2 2) (e6 : t 77 = .slice (some ⟨h + 6, 0, some 1⟩) 2 2) (e7 : t 78 = .slice (some ⟨h + 7, 0, some 1⟩) 2 2) (e8 : t 79 = .slice (some ⟨h + 8, 0, some 1⟩) 2 2) (e9 : t 80 = .slice (some ⟨h + 9, 0, some 1⟩) 2 2) (e10 : t 81 = .slice (some ⟨h + 10, 0, some 1⟩) 2 2) :
    evalOp Tryz.prog t H (.buildSlice 24 11 #[(0, .tmp 71), (1, .tmp 72), (2, .tmp 73), (3, .tmp 74), (4, .tmp 75), (5, .tmp 76), (6, .tmp 77), (7, .tmp 78), (8, .tmp 79), (9, .tmp 80), (10, .tmp 81)]) = .need (11 ≤ 16777216 ∧ 11 * 1 ≤ 16777216) (.val (.slice (some ⟨H.next, 0, some 1⟩) 11 11) (H.push ⟨28, true, [.slice (some ⟨h + 0, 0, some 1⟩) 2 2, .slice (some ⟨h + 1, 0, some 1⟩) 2 2, .slice (some ⟨h + 2, 0, some 1⟩) 2 2, .slice (some ⟨h + 3, 0, some 1⟩) 2 2, .slice (some ⟨h + 4, 0, some 1⟩) 2 2, .slice (some ⟨h + 5, 0, some 1⟩) 2 2, .slice (some ⟨h + 6, 0, some 1⟩) 2 2, .slice (some ⟨h + 7, 0, some 1⟩) 2 2, .slice (some ⟨h + 8, 0, some 1⟩) 2 2, .slice (some ⟨h + 9, 0, some 1⟩) 2 2, .slice (some ⟨h + 10, 0, some 1⟩) 2 2]⟩)) := by
  have h1 : evalOp Tryz.prog (fun i => if i < 71 then undef else if i < 82 then .slice (some ⟨h + (i - 71), 0, some 1⟩) 2 2 else undef) H (.buildSlice 24 11 #[(0, .tmp 71), (1, .tmp 72), (2, .tmp 73), (3, .tmp 74), (4, .tmp 75), (5, .tmp 76), (6, .tmp 77), (7, .tmp 78), (8, .tmp 79), (9, .tmp 80), (10, .tmp 81)]) = .need (11 ≤ 16777216 ∧ 11 * 1 ≤ 16777216) (.val (.slice (some ⟨H.next, 0, some 1⟩) 11 11) (H.push ⟨28, true, [.slice (some ⟨h + 0, 0, some 1⟩) 2 2, .slice (some ⟨h + 1, 0, some 1⟩) 2 2, .slice (some ⟨h + 2, 0, some 1⟩) 2 2, .slice (some ⟨h + 3, 0, some 1⟩) 2 2, .slice (some ⟨h + 4, 0, some 1⟩) 2 2, .slice (some ⟨h + 5, 0, some 1⟩) 2 2, .slice (some ⟨h + 6, 0, some 1⟩) 2 2, .slice (some ⟨h + 7, 0, some 1⟩) 2 2, .slice (some ⟨h + 8, 0, some 1⟩) 2 2, .slice (some ⟨h + 9, 0, some 1⟩) 2 2, .slice (some ⟨h + 10, 0, some 1⟩) 2 2]⟩)) := by kernel_rfl
  have h2 : ∀ t : T, evp t [(0, .tmp 71), (1, .tmp 72), (2, .tmp 73), (3, .tmp 74), (4, .tmp 75), (5, .tmp 76), (6, .tmp 77), (7, .tmp 78), (8, .tmp 79), (9, .tmp 80), (10, .tmp 81)] = some [(0, t 71), (1, t 72), (2, t 73), (3, t 74), (4, t 75), (5, t 76), (6, t 77), (7, t 78), (8, t 79), (9, t 80), (10, t 81)] := fun t => rfl
  rw [← h1]
  simp only [evalOp, h2, e0, e1, e2, e3, e4, e5, e6, e7, e8, e9, e10]
  rfl
theorem l08DrawOf_c (cv : Value) (nb si : Nat) (H : AH) (hnb : nb ≤ 4611686018427387904) (hs : Src cv nb si H) (hc : CodeX cv nb si H) :
    ACalls Tryz.prog 53 [.pointer (some ⟨si, 0, none⟩)] H (DrawnG cv nb si H) := by
  refine ACalls.wf (by kernel_rfl) fun hsc => acalls_of_awp [.cell 2 26] Tryz.func53 (by kernel_rfl) rfl rfl (Nat.le_of_ble_eq_true rfl) (by kernel_rfl) ?_
  obtain ⟨_, _, hrow, _⟩ := id hs
  have hsi := hsc _ _ hrow
  clear hrow
  have d0 := (Dq.start hs hsc).push ⟨26, true, [.int .i64 0, .int .i64 0, .slice none 0 0]⟩
  have d0 : Dq cv nb si H (H.push ⟨26, true, [.int .i64 0, .int .i64 0, .slice none 0 0]⟩) [.row H.next ⟨26, true, [.int .i64 0, .int .i64 0, .slice none 0 0]⟩] := d0
  try simp (disch := first | omega | (simp only [L3] <;> omega)) only [Sall,evalOp,init,binA_s,binE,binI,unE,convE,okNil,builtE,gv,TD.isAgg,resV,↓reduceIte,Nat.reduceEqDiff,reduceCtorEq,Nat.reduceAdd,Nat.reduceMul,Nat.reduceLeDiff,quietOp,blindOp,Int.reduceEq,Int.reduceLT,Int.reduceLE,Nat.reduceLT,tiA,tiXA, true_and]
  obtain ⟨c2, ec2⟩ : ∃ c2, c2 = H.next := ⟨_, rfl⟩
  rw [← ec2] at d0 ⊢
  have nc2 : ¬ c2 = si := by omega
  generalize H.push ⟨26, true, [.int .i64 0, .int .i64 0, .slice none 0 0]⟩ = H1 at d0 ⊢
  refine (nextD 3 d0 hsi hc hsc hnb (by omega)).ex ?_
  rintro c H3 ⟨hc3, d2⟩
  refine Holds.mp ?_
  by_cases c0 : (c : Int) = 0
  · have f0 : ((c : Int) == 0) = true := beq_iff_eq.2 c0
    have hb : ∀ (t : T) (H : AH), evalOp Tryz.prog t H (.buildSlice 28 4 #[(0, .const (.int .i64 2)), (1, .const (.int .i64 3)), (2, .const (.int .i64 3)), (3, .const (.int .i64 5))]) = .need (4 ≤ 16777216 ∧ 4 * 1 ≤ 16777216) (.val (.slice (some ⟨H.next, 0, some 1⟩) 4 4) (H.push ⟨2, true, ints [2, 3, 3, 5]⟩)) := fun t H => by kernel_rfl
    generalize (Op.buildSlice 28 4 #[(0, .const (.int .i64 2)), (1, .const (.int .i64 3)), (2, .const (.int .i64 3)), (3, .const (.int .i64 5))]) = bop at hb ⊢
    simp (config := {maxSteps := 3000000}) (disch := first | omega | (simp only [L3] <;> omega)) only [Sall,evalOp,init,binA_s,binE,binI,unE,convE,okNil,builtE,gv,TD.isAgg,resV,↓reduceIte,Nat.reduceEqDiff,reduceCtorEq,Nat.reduceAdd,Nat.reduceMul,Nat.reduceLeDiff,quietOp,blindOp,Int.reduceEq,Int.reduceLT,Int.reduceLE,Nat.reduceLT,tiA,tiXA, f0, ↓hb]
    refine (pickL [2, 3, 3, 5] 4 rfl (by omega) (by omega) d2 hsi hc hsc hnb).ex ?_
    rintro x H4 ⟨hx, d3⟩
    have hx2 : 2 ≤ x ∧ x ≤ 5 := by
      simp only [List.mem_cons, List.not_mem_nil, or_false] at hx
      omega
    obtain ⟨k, rfl⟩ : ∃ k : Nat, x = k := ⟨x.toNat, by omega⟩
    have hk : 2 ≤ k ∧ k ≤ 5 := by omega
    clear hx hx2
    refine Holds.mp ?_
    simp (config := {maxSteps := 3000000}) (disch := first | omega | (simp only [L3] <;> omega)) only [Sall,evalOp,init,binA_s,binE,binI,unE,convE,okNil,builtE,gv,TD.isAgg,resV,↓reduceIte,Nat.reduceEqDiff,reduceCtorEq,Nat.reduceAdd,Nat.reduceMul,Nat.reduceLeDiff,quietOp,blindOp,Int.reduceEq,Int.reduceLT,Int.reduceLE,Nat.reduceLT,tiA,tiXA, true_and]
    refine ACalls.ex (g := fun u : Value => .agg #[.int .i64 ((k * k : Nat) : Int), .int .i64 k, u]) (l08Grid_c k hk H4) ?_
    rintro u H5 og
    obtain ⟨n, en⟩ : ∃ n, n = k * k := ⟨_, rfl⟩
    have hn : 4 ≤ n ∧ n ≤ 25 := by
      have h1 : 2 * 2 ≤ k * k := Nat.mul_le_mul hk.1 hk.1
      have h2 : k * k ≤ 5 * 5 := Nat.mul_le_mul hk.2 hk.2
      omega
    have hgl := grdL_length k (k + 1)
    have hgr : ∀ r ∈ grdL k (k + 1), r.length ≤ 1000 ∧ ∀ x ∈ r, 0 ≤ x ∧ x < (n : Int) := by
      intro r hr
      unfold grdL at hr
      obtain ⟨i, _, rfl⟩ := List.mem_map.1 hr
      obtain ⟨h1, h2⟩ := grA_ok (k := k) (i := i) (k * k) (Nat.le_refl _)
      rw [← en] at h1 h2 ⊢
      have h3 : n * n ≤ 25 * 25 := Nat.mul_le_mul hn.2 hn.2
      exact ⟨by omega, h1⟩
    generalize grdL k (k + 1) = G at *
    rw [← en]
    have d4 := (d3.calls og).push ⟨26, true, [.int .i64 0, .int .i64 0, .slice none 0 0]⟩ |>.putRow 2 rfl (cs' := [.int .i64 n, .int .i64 k, u])
    have hu := (og.rd2 0 rfl).one
    refine Holds.mp ?_
    try simp (disch := first | omega | (simp only [L3] <;> omega)) only [Sall,evalOp,init,binA_s,binE,binI,unE,convE,okNil,builtE,gv,TD.isAgg,resV,↓reduceIte,Nat.reduceEqDiff,reduceCtorEq,Nat.reduceAdd,Nat.reduceMul,Nat.reduceLeDiff,quietOp,blindOp,Int.reduceEq,Int.reduceLT,Int.reduceLE,Nat.reduceLT,tiA,tiXA, hu]
    obtain ⟨xi, exi⟩ : ∃ xi, xi = H5.next := ⟨_, rfl⟩
    have nxi : ¬ xi = si := by have := d3.le; have := og.next; omega
    have d4 : Dq cv nb si H ((H5.push ⟨26, true, [.int .i64 0, .int .i64 0, .slice none 0 0]⟩).setCells H5.next [.int .i64 n, .int .i64 k, u]) [.row c2 ⟨26, true, [.int .i64 0, .int .i64 0, .slice none 0 0]⟩, .sl2 (Value.int .i64) 28 2 u G, .row H5.next ⟨26, true, [.int .i64 n, .int .i64 k, u]⟩] := d4
    rw [← exi] at d4 ⊢
    generalize (H5.push ⟨26, true, [.int .i64 0, .int .i64 0, .slice none 0 0]⟩).setCells xi [.int .i64 n, .int .i64 k, u] = H6 at d4 ⊢
    clear exi og d3 d2 d0
    have g2 := d4.rowAt 2 rfl
    try simp (disch := first | omega | (simp only [L3] <;> omega)) only [Sall,evalOp,init,binA_s,binE,binI,unE,convE,okNil,builtE,gv,TD.isAgg,resV,↓reduceIte,Nat.reduceEqDiff,reduceCtorEq,Nat.reduceAdd,Nat.reduceMul,Nat.reduceLeDiff,quietOp,blindOp,Int.reduceEq,Int.reduceLT,Int.reduceLE,Nat.reduceLT,tiA,tiXA, g2]
    refine (l01DrawOrder_c cv nb si n H6 (by omega) hnb (d4.src hsi) (d4.code hc hsc)).mono ?_
    rintro w H8 ⟨y, B8, k8, o8, hpl⟩
    rw [Int.toNat_natCast] at o8 hpl
    have d5 := d4.call hsi k8 o8
    have hw := o8.one 0 rfl
    have g2' := d5.rowAt 2 rfl
    have d6 := (d5.map fun B o => o.pushSl2 (Value.int .i64) 28 2).push ⟨26, true, [.int .i64 0, .int .i64 0, .slice none 0 0]⟩ |>.putRow 5 rfl (cs' := [.int .i64 n, .int .i64 k, .slice (some ⟨H8.next, 0, some 1⟩) 0 0])
    have nx8 : ¬ xi = H8.next := by obtain ⟨B, b, o⟩ := id d5.ex; have := (o.rowAt 2 rfl).2.2; omega
    refine Holds.mp ?_
    try simp (disch := first | omega | (simp only [L3] <;> omega)) only [Sall,evalOp,init,binA_s,binE,binI,unE,convE,okNil,builtE,gv,TD.isAgg,resV,↓reduceIte,Nat.reduceEqDiff,reduceCtorEq,Nat.reduceAdd,Nat.reduceMul,Nat.reduceLeDiff,quietOp,blindOp,Int.reduceEq,Int.reduceLT,Int.reduceLE,Nat.reduceLT,tiA,tiXA, hw, g2', nx8, zeros_zero]
    obtain ⟨wi, ewi⟩ : ∃ wi, wi = H8.next := ⟨_, rfl⟩
    rw [← ewi] at d6 ⊢
    have d6 : Dq cv nb si H (((H8.push ⟨28, true, []⟩).push ⟨26, true, [.int .i64 0, .int .i64 0, .slice none 0 0]⟩).setCells (wi + 1) [.int .i64 n, .int .i64 k, .slice (some ⟨wi, 0, some 1⟩) 0 0]) [.row c2 ⟨26, true, [.int .i64 0, .int .i64 0, .slice none 0 0]⟩, .sl2 (Value.int .i64) 28 2 u G, .row xi ⟨26, true, [.int .i64 n, .int .i64 k, u]⟩, .sl 1 2 w n (ints y), .sl2 (Value.int .i64) 28 2 (.slice (some ⟨wi, 0, some 1⟩) 0 0) [], .row (wi + 1) ⟨26, true, [.int .i64 n, .int .i64 k, .slice (some ⟨wi, 0, some 1⟩) 0 0]⟩] := by
      have e : (H8.push ⟨28, true, []⟩).next = wi + 1 := by rw [ewi]; rfl
      rw [e] at d6
      exact d6
    obtain ⟨oi, eoi⟩ : ∃ oi, oi = wi + 1 := ⟨_, rfl⟩
    rw [← eoi] at d6 ⊢
    have noi : ¬ oi = si := by have := d4.le; have := d5.le; omega
    generalize ((H8.push ⟨28, true, []⟩).push ⟨26, true, [.int .i64 0, .int .i64 0, .slice none 0 0]⟩).setCells oi [.int .i64 n, .int .i64 k, .slice (some ⟨wi, 0, some 1⟩) 0 0] = H9 at d6 ⊢
    refine (nextD 3 d6 hsi hc hsc hnb (by omega)).ex ?_
    rintro i0 Ha ⟨hi0, d7⟩
    clear d4 d5 d6
    refine Holds.mp ?_
    try simp (disch := first | omega | (simp only [L3] <;> omega)) only [Sall,evalOp,init,binA_s,binE,binI,unE,convE,okNil,builtE,gv,TD.isAgg,resV,↓reduceIte,Nat.reduceEqDiff,reduceCtorEq,Nat.reduceAdd,Nat.reduceMul,Nat.reduceLeDiff,quietOp,blindOp,Int.reduceEq,Int.reduceLT,Int.reduceLE,Nat.reduceLT,tiA,tiXA, true_and]
    refine awp_loop (fun m t H' => ∃ (i : Nat) (wv : Value) (R : List (List Int)), m = k + 4 - i ∧ i ≤ k + 3 ∧ t 6 = .int .i64 i ∧ t 0 = .pointer (some ⟨si, 0, none⟩) ∧ t 2 = .pointer (some ⟨c2, 0, none⟩) ∧ t 3 = .pointer (some ⟨xi, 0, none⟩) ∧ t 4 = w ∧ t 5 = .pointer (some ⟨oi, 0, none⟩) ∧ R.length ≤ i ∧ (R.length = 0 ∨ i ≤ k + 1) ∧ (∀ r ∈ R, r.length ≤ 1000) ∧ Dq cv nb si H H' [.row c2 ⟨26, true, [.int .i64 0, .int .i64 0, .slice none 0 0]⟩, .sl2 (Value.int .i64) 28 2 u G, .row xi ⟨26, true, [.int .i64 n, .int .i64 k, u]⟩, .sl 1 2 w n (ints y), .sl2 (Value.int .i64) 28 2 wv R, .row oi ⟨26, true, [.int .i64 n, .int .i64 k, wv]⟩]) (k + 4 - i0) ?_ ?_
    · refine ⟨i0, .slice (some ⟨wi, 0, some 1⟩) 0 0, [], by omega, by omega, ?_⟩
      try simp (disch := first | omega | (simp only [L3] <;> omega)) only [Sall,evalOp,init,binA_s,binE,binI,unE,convE,okNil,builtE,gv,TD.isAgg,resV,↓reduceIte,Nat.reduceEqDiff,reduceCtorEq,Nat.reduceAdd,Nat.reduceMul,Nat.reduceLeDiff,quietOp,blindOp,Int.reduceEq,Int.reduceLT,Int.reduceLE,Nat.reduceLT,tiA,tiXA, true_and]
      exact ⟨Nat.zero_le _, (fun r hr => by cases hr), d7⟩
    · rintro m t Hb ⟨i, wv, R, hm, hi, h6, h0, h2, h3, h4, h5, hR1, hR2, hR3, d8⟩
      obtain ⟨B8, b8, o8⟩ := id d8.ex
      have g2 := (o8.rowAt 2 rfl).1
      have hu := (o8.rd2 1 rfl).one
      have hgu := (o8.rg 1 rfl).len
      try simp (disch := first | omega | (simp only [L3] <;> omega)) only [Sall,evalOp,init,binA_s,binE,binI,unE,convE,okNil,builtE,gv,TD.isAgg,resV,↓reduceIte,Nat.reduceEqDiff,reduceCtorEq,Nat.reduceAdd,Nat.reduceMul,Nat.reduceLeDiff,quietOp,blindOp,Int.reduceEq,Int.reduceLT,Int.reduceLE,Nat.reduceLT,tiA,tiXA, h6, h3, g2, hu, builtE, hgu]
      refine condC_dec (fun hh => ?_) (fun hh => ?_)
      · have hig : i < k + 1 := by omega
        have hid : G.getD i [] ∈ G := getD_memZ _ (by omega)
        obtain ⟨hg1, hg2⟩ := hgr _ hid
        try simp (disch := first | omega | (simp only [L3] <;> omega)) only [Sall,evalOp,init,binA_s,binE,binI,unE,convE,okNil,builtE,gv,TD.isAgg,resV,↓reduceIte,Nat.reduceEqDiff,reduceCtorEq,Nat.reduceAdd,Nat.reduceMul,Nat.reduceLeDiff,quietOp,blindOp,Int.reduceEq,Int.reduceLT,Int.reduceLE,Nat.reduceLT,tiA,tiXA, h6, h0, h2, h3, h4, h5, zeros_zero]
        have d9 := d8.map fun B o => o.pushSl (k := 1) (n := 0) (ty := 2) (vs := ints []) rfl
        refine awp_loop (fun m' t H' => ∃ (j : Nat) (rv : Value) (l : List Int), m' = (G.getD i []).length - j ∧ j ≤ (G.getD i []).length ∧ l.length = j ∧ t 8 = .int .i64 j ∧ t 7 = rv ∧ t 6 = .int .i64 i ∧ t 0 = .pointer (some ⟨si, 0, none⟩) ∧ t 2 = .pointer (some ⟨c2, 0, none⟩) ∧ t 3 = .pointer (some ⟨xi, 0, none⟩) ∧ t 4 = w ∧ t 5 = .pointer (some ⟨oi, 0, none⟩) ∧ Dq cv nb si H H' [.row c2 ⟨26, true, [.int .i64 0, .int .i64 0, .slice none 0 0]⟩, .sl2 (Value.int .i64) 28 2 u G, .row xi ⟨26, true, [.int .i64 n, .int .i64 k, u]⟩, .sl 1 2 w n (ints y), .sl2 (Value.int .i64) 28 2 wv R, .row oi ⟨26, true, [.int .i64 n, .int .i64 k, wv]⟩, .sl 1 2 rv l.length (ints l)]) (G.getD i []).length ?_ ?_
        · refine ⟨0, .slice (some ⟨Hb.next, 0, some 1⟩) 0 0, [], by omega, by omega, rfl, ?_⟩
          try simp (disch := first | omega | (simp only [L3] <;> omega)) only [Sall,evalOp,init,binA_s,binE,binI,unE,convE,okNil,builtE,gv,TD.isAgg,resV,↓reduceIte,Nat.reduceEqDiff,reduceCtorEq,Nat.reduceAdd,Nat.reduceMul,Nat.reduceLeDiff,quietOp,blindOp,Int.reduceEq,Int.reduceLT,Int.reduceLE,Nat.reduceLT,tiA,tiXA, Int.natCast_zero, h6, h0, h2, h3, h5]
          exact ⟨h4, d9⟩
        · rintro m' t Hc ⟨j, rv, l, hm', hj, hl, h8, h7, h6, h0, h2, h3, h4, h5, da⟩
          obtain ⟨Ba, ba, oa⟩ := id da.ex
          have g2 := (oa.rowAt 2 rfl).1
          have hu := (oa.rd2 1 rfl).one
          obtain ⟨vi, vo, vu, vc, vr, yv, ev, v1, v2, v3, v4⟩ := (oa.rg 1 rfl).get (j := i) (by omega)
          have hyl := v3.rd.len
          have hyo := v3.rd.one
          subst ev
          try simp (disch := first | omega | (simp only [L3] <;> omega)) only [Sall,evalOp,init,binA_s,binE,binI,unE,convE,okNil,builtE,gv,TD.isAgg,resV,↓reduceIte,Nat.reduceEqDiff,reduceCtorEq,Nat.reduceAdd,Nat.reduceMul,Nat.reduceLeDiff,quietOp,blindOp,Int.reduceEq,Int.reduceLT,Int.reduceLE,Nat.reduceLT,tiA,tiXA, h8, h3, g2, h6, builtE, hyl, hyo, v1, v2, v4]
          refine ⟨⟨by omega, by omega⟩, condC_dec (fun hh2 => ?_) (fun hh2 => ?_)⟩
          · obtain ⟨yi, yo, yu, yc, yr, ey, y1, y2, y3, _⟩ := v3.rd.get (by omega)
            obtain ⟨pi, po, pu, pc, pr, ep, p1, p2, p3, _⟩ := (oa.rd 3 rfl).get (by omega)
            have y4 := y3 j (by omega)
            have hej : (G.getD i []).getD j 0 ∈ G.getD i [] := getD_memZ _ (by omega)
            obtain ⟨he1, he2⟩ := hg2 _ hej
            obtain ⟨e, ee⟩ : ∃ e : Nat, (G.getD i []).getD j 0 = e := ⟨((G.getD i []).getD j 0).toNat, by omega⟩
            rw [ee] at y4 he2
            have p4 := p3 e (by omega)
            have hyr : yo + j < yr.cells.length := by omega
            have hpr : po + e < pr.cells.length := by omega
            have hrv := oa.one 6 rfl
            subst ey
            subst ep
            have z1 : zeros 1 [.int .i64 0] = [.int .i64 0] := rfl
            try simp (disch := first | omega | (simp only [L3] <;> omega)) only [Sall,evalOp,init,binA_s,binE,binI,unE,convE,okNil,builtE,gv,TD.isAgg,resV,↓reduceIte,Nat.reduceEqDiff,reduceCtorEq,Nat.reduceAdd,Nat.reduceMul,Nat.reduceLeDiff,quietOp,blindOp,Int.reduceEq,Int.reduceLT,Int.reduceLE,Nat.reduceLT,tiA,tiXA, h8, h7, h6, h0, h2, h3, h4, h5, g2, v1, v2, v4, y1, y4, p1, p4, hrv, z1, slCells]
            have hl1 : l.length + 1 ≤ 4294967296 := by omega
            refine ⟨⟨by omega, by omega⟩, ⟨by omega, by omega⟩, ⟨by omega, by omega⟩, ?_⟩
            refine (oa.tmp ⟨2, true, [.int .i64 (y.getD e 0)]⟩).app 6 (c := 1) (ms := ints [y.getD e 0]) rfl rfl (by omega) rfl (by omega) (by decide) hl1 ?_
            intro v' Hd nd od
            rw [ints_append] at od
            have hj1 : ((j + 1 : Nat) : Int) = (j : Int) + 1 := by omega
            try simp (disch := first | omega | (simp only [L3] <;> omega)) only [Sall,evalOp,init,binA_s,binE,binI,unE,convE,okNil,builtE,gv,TD.isAgg,resV,↓reduceIte,Nat.reduceEqDiff,reduceCtorEq,Nat.reduceAdd,Nat.reduceMul,Nat.reduceLeDiff,quietOp,blindOp,Int.reduceEq,Int.reduceLT,Int.reduceLE,Nat.reduceLT,tiA,tiXA, h8, h7, h6, h0, h2, h3, h4, h5, w64]
            refine ⟨(G.getD i []).length - (j + 1), by omega, j + 1, v', l ++ [y.getD e 0], rfl, by omega, by rw [List.length_append, hl]; rfl, by omega, rfl, ⟨⟨Ba, ba, ?_⟩⟩⟩
            rw [List.length_append]
            exact od
          · have hje : j = (G.getD i []).length := by omega
            have hl6 : l.length ≤ 1000 := by omega
            have hrv := oa.one 6 rfl
            have hwv := (oa.rd2 4 rfl).one
            have g5 := (oa.rowAt 5 rfl).1
            have zz : zeros 1 [.slice none 0 0] = [.slice none 0 0] := rfl
            have hq1 := cells_of_one hrv
            have hq2 := noTuple_of_one hrv
            have hq3 := fun r => ok_one (r := r) hrv
            try simp (disch := first | omega | (simp only [L3] <;> omega)) only [Sall,evalOp,init,binA_s,binE,binI,unE,convE,okNil,builtE,gv,TD.isAgg,resV,↓reduceIte,Nat.reduceEqDiff,reduceCtorEq,Nat.reduceAdd,Nat.reduceMul,Nat.reduceLeDiff,quietOp,blindOp,Int.reduceEq,Int.reduceLT,Int.reduceLE,Nat.reduceLT,tiA,tiXA, h7, h6, h0, h2, h3, h4, h5, g5, hrv, hwv, zz, hq1, hq2, hq3, slCells]
            refine (oa.tmp ⟨28, true, [rv]⟩).app2 (l := l) 4 6 rfl rfl (by omega) rfl (by decide) (by omega) ?_
            intro v' Hd nd od
            have g5' := (od.rowAt 5 rfl).1
            have hv' := (od.rd2 4 rfl).one
            have oe := od.putRow 5 rfl (cs' := [.int .i64 n, .int .i64 k, v'])
            try simp (disch := first | omega | (simp only [L3] <;> omega)) only [Sall,evalOp,init,binA_s,binE,binI,unE,convE,okNil,builtE,gv,TD.isAgg,resV,↓reduceIte,Nat.reduceEqDiff,reduceCtorEq,Nat.reduceAdd,Nat.reduceMul,Nat.reduceLeDiff,quietOp,blindOp,Int.reduceEq,Int.reduceLT,Int.reduceLE,Nat.reduceLT,tiA,tiXA, h6, h0, h2, h3, h4, h5, g5', hv', w64]
            refine ⟨k + 4 - (i + 1), by omega, i + 1, v', R ++ [l], rfl, by omega, by omega, by rw [List.length_append]; simp; omega, .inr (by omega), fun r hr => ?_, ⟨⟨Ba, ba, ?_⟩⟩⟩
            · rcases List.mem_append.1 hr with h | h
              · exact hR3 r h
              · rw [List.mem_singleton] at h; rw [h]; exact hl6
            · exact Ow.left (L := [.row c2 ⟨26, true, [.int .i64 0, .int .i64 0, .slice none 0 0]⟩, .sl2 (Value.int .i64) 28 2 (.slice (some ⟨vi, vo, vu⟩) G.length vc) G, .row xi ⟨26, true, [.int .i64 n, .int .i64 k, .slice (some ⟨vi, vo, vu⟩) G.length vc]⟩, .sl 1 2 w n (ints y), .sl2 (Value.int .i64) 28 2 v' (R ++ [l]), .row oi ⟨26, true, [.int .i64 n, .int .i64 k, v']⟩]) oe
      · have g5 := (o8.rowAt 5 rfl).1
        have g0 := (o8.rowAt 0 rfl).1
        have hwv := (o8.rd2 4 rfl).one
        try simp (disch := first | omega | (simp only [L3] <;> omega)) only [Sall,evalOp,init,binA_s,binE,binI,unE,convE,okNil,builtE,gv,TD.isAgg,resV,↓reduceIte,Nat.reduceEqDiff,reduceCtorEq,Nat.reduceAdd,Nat.reduceMul,Nat.reduceLeDiff,quietOp,blindOp,Int.reduceEq,Int.reduceLT,Int.reduceLE,Nat.reduceLT,tiA,tiXA, h2, h5, g5, g0, hwv]
        have d9 := d8.putRow 0 rfl (cs' := [.int .i64 n, .int .i64 k, wv])
        have hsl := d9.sld 4 rfl
        obtain ⟨ws, d10⟩ := d9.sl2Rc 4 rfl
        exact ⟨n, k, wv, ws, R, rfl, by omega, by omega, ⟨by omega, hR3⟩, hsl, d10⟩
  · have f0 : ((c : Int) == 0) = false := beq_eq_false_iff_ne.2 c0
    have hb0 : ∀ (t : T) (H : AH), evalOp Tryz.prog t H (.buildSlice 28 2 #[(0, .const (.int .i64 4)), (1, .const (.int .i64 2))]) = .need (2 ≤ 16777216 ∧ 2 * 1 ≤ 16777216) (.val (.slice (some ⟨H.next, 0, some 1⟩) 2 2) (H.push ⟨2, true, ints [4, 2]⟩)) := fun t H => by kernel_rfl
    generalize (Op.buildSlice 28 2 #[(0, .const (.int .i64 4)), (1, .const (.int .i64 2))]) = b0 at hb0 ⊢
    have hb1 : ∀ (t : T) (H : AH), evalOp Tryz.prog t H (.buildSlice 28 2 #[(0, .const (.int .i64 6)), (1, .const (.int .i64 2))]) = .need (2 ≤ 16777216 ∧ 2 * 1 ≤ 16777216) (.val (.slice (some ⟨H.next, 0, some 1⟩) 2 2) (H.push ⟨2, true, ints [6, 2]⟩)) := fun t H => by kernel_rfl
    generalize (Op.buildSlice 28 2 #[(0, .const (.int .i64 6)), (1, .const (.int .i64 2))]) = b1 at hb1 ⊢
    have hb2 : ∀ (t : T) (H : AH), evalOp Tryz.prog t H (.buildSlice 28 2 #[(0, .const (.int .i64 6)), (1, .const (.int .i64 3))]) = .need (2 ≤ 16777216 ∧ 2 * 1 ≤ 16777216) (.val (.slice (some ⟨H.next, 0, some 1⟩) 2 2) (H.push ⟨2, true, ints [6, 3]⟩)) := fun t H => by kernel_rfl
    generalize (Op.buildSlice 28 2 #[(0, .const (.int .i64 6)), (1, .const (.int .i64 3))]) = b2 at hb2 ⊢
    have hb3 : ∀ (t : T) (H : AH), evalOp Tryz.prog t H (.buildSlice 28 2 #[(0, .const (.int .i64 8)), (1, .const (.int .i64 2))]) = .need (2 ≤ 16777216 ∧ 2 * 1 ≤ 16777216) (.val (.slice (some ⟨H.next, 0, some 1⟩) 2 2) (H.push ⟨2, true, ints [8, 2]⟩)) := fun t H => by kernel_rfl
    generalize (Op.buildSlice 28 2 #[(0, .const (.int .i64 8)), (1, .const (.int .i64 2))]) = b3 at hb3 ⊢
    have hb4 : ∀ (t : T) (H : AH), evalOp Tryz.prog t H (.buildSlice 28 2 #[(0, .const (.int .i64 8)), (1, .const (.int .i64 4))]) = .need (2 ≤ 16777216 ∧ 2 * 1 ≤ 16777216) (.val (.slice (some ⟨H.next, 0, some 1⟩) 2 2) (H.push ⟨2, true, ints [8, 4]⟩)) := fun t H => by kernel_rfl
    generalize (Op.buildSlice 28 2 #[(0, .const (.int .i64 8)), (1, .const (.int .i64 4))]) = b4 at hb4 ⊢
    have hb5 : ∀ (t : T) (H : AH), evalOp Tryz.prog t H (.buildSlice 28 2 #[(0, .const (.int .i64 9)), (1, .const (.int .i64 3))]) = .need (2 ≤ 16777216 ∧ 2 * 1 ≤ 16777216) (.val (.slice (some ⟨H.next, 0, some 1⟩) 2 2) (H.push ⟨2, true, ints [9, 3]⟩)) := fun t H => by kernel_rfl
    generalize (Op.buildSlice 28 2 #[(0, .const (.int .i64 9)), (1, .const (.int .i64 3))]) = b5 at hb5 ⊢
    have hb6 : ∀ (t : T) (H : AH), evalOp Tryz.prog t H (.buildSlice 28 2 #[(0, .const (.int .i64 12)), (1, .const (.int .i64 3))]) = .need (2 ≤ 16777216 ∧ 2 * 1 ≤ 16777216) (.val (.slice (some ⟨H.next, 0, some 1⟩) 2 2) (H.push ⟨2, true, ints [12, 3]⟩)) := fun t H => by kernel_rfl
    generalize (Op.buildSlice 28 2 #[(0, .const (.int .i64 12)), (1, .const (.int .i64 3))]) = b6 at hb6 ⊢
    have hb7 : ∀ (t : T) (H : AH), evalOp Tryz.prog t H (.buildSlice 28 2 #[(0, .const (.int .i64 12)), (1, .const (.int .i64 4))]) = .need (2 ≤ 16777216 ∧ 2 * 1 ≤ 16777216) (.val (.slice (some ⟨H.next, 0, some 1⟩) 2 2) (H.push ⟨2, true, ints [12, 4]⟩)) := fun t H => by kernel_rfl
    generalize (Op.buildSlice 28 2 #[(0, .const (.int .i64 12)), (1, .const (.int .i64 4))]) = b7 at hb7 ⊢
    have hb8 : ∀ (t : T) (H : AH), evalOp Tryz.prog t H (.buildSlice 28 2 #[(0, .const (.int .i64 15)), (1, .const (.int .i64 5))]) = .need (2 ≤ 16777216 ∧ 2 * 1 ≤ 16777216) (.val (.slice (some ⟨H.next, 0, some 1⟩) 2 2) (H.push ⟨2, true, ints [15, 5]⟩)) := fun t H => by kernel_rfl
    generalize (Op.buildSlice 28 2 #[(0, .const (.int .i64 15)), (1, .const (.int .i64 5))]) = b8 at hb8 ⊢
    have hb9 : ∀ (t : T) (H : AH), evalOp Tryz.prog t H (.buildSlice 28 2 #[(0, .const (.int .i64 6)), (1, .const (.int .i64 6))]) = .need (2 ≤ 16777216 ∧ 2 * 1 ≤ 16777216) (.val (.slice (some ⟨H.next, 0, some 1⟩) 2 2) (H.push ⟨2, true, ints [6, 6]⟩)) := fun t H => by kernel_rfl
    generalize (Op.buildSlice 28 2 #[(0, .const (.int .i64 6)), (1, .const (.int .i64 6))]) = b9 at hb9 ⊢
    have hb10 : ∀ (t : T) (H : AH), evalOp Tryz.prog t H (.buildSlice 28 2 #[(0, .const (.int .i64 20)), (1, .const (.int .i64 4))]) = .need (2 ≤ 16777216 ∧ 2 * 1 ≤ 16777216) (.val (.slice (some ⟨H.next, 0, some 1⟩) 2 2) (H.push ⟨2, true, ints [20, 4]⟩)) := fun t H => by kernel_rfl
    generalize (Op.buildSlice 28 2 #[(0, .const (.int .i64 20)), (1, .const (.int .i64 4))]) = b10 at hb10 ⊢
    obtain ⟨xx, hxx⟩ : ∃ xx : T → AH → Out, ∀ t H, evalOp Tryz.prog t H (.buildSlice 24 11 #[(0, .tmp 71), (1, .tmp 72), (2, .tmp 73), (3, .tmp 74), (4, .tmp 75), (5, .tmp 76), (6, .tmp 77), (7, .tmp 78), (8, .tmp 79), (9, .tmp 80), (10, .tmp 81)]) = xx t H := ⟨fun t H => _, fun _ _ => rfl⟩
    generalize eb11 : (Op.buildSlice 24 11 #[(0, .tmp 71), (1, .tmp 72), (2, .tmp 73), (3, .tmp 74), (4, .tmp 75), (5, .tmp 76), (6, .tmp 77), (7, .tmp 78), (8, .tmp 79), (9, .tmp 80), (10, .tmp 81)]) = b11 at hxx ⊢
    simp (config := {maxSteps := 3000000}) (disch := first | omega | (simp only [L3] <;> omega)) only [Sall,evalOp,init,binA_s,binE,binI,unE,convE,okNil,builtE,gv,TD.isAgg,resV,↓reduceIte,Nat.reduceEqDiff,reduceCtorEq,Nat.reduceAdd,Nat.reduceMul,Nat.reduceLeDiff,quietOp,blindOp,Int.reduceEq,Int.reduceLT,Int.reduceLE,Nat.reduceLT,tiA,tiXA, f0, ↓hb0, ↓hb1, ↓hb2, ↓hb3, ↓hb4, ↓hb5, ↓hb6, ↓hb7, ↓hb8, ↓hb9, ↓hb10, ↓hxx]
    rw [← hxx, ← eb11]
    rw [sizes11 _ _ H3.next]
    rotate_left
    iterate 11 rfl
    rw [runOut_need, runOut_val]
    refine ⟨by decide, ?_⟩
    obtain ⟨h, eh⟩ : ∃ h, h = H3.next := ⟨_, rfl⟩
    have d3 : Dq cv nb si H ((((((((((((H3.push ⟨2, true, ints [4, 2]⟩).push ⟨2, true, ints [6, 2]⟩).push ⟨2, true, ints [6, 3]⟩).push ⟨2, true, ints [8, 2]⟩).push ⟨2, true, ints [8, 4]⟩).push ⟨2, true, ints [9, 3]⟩).push ⟨2, true, ints [12, 3]⟩).push ⟨2, true, ints [12, 4]⟩).push ⟨2, true, ints [15, 5]⟩).push ⟨2, true, ints [6, 6]⟩).push ⟨2, true, ints [20, 4]⟩).push ⟨28, true, [.slice (some ⟨H3.next + 0, 0, some 1⟩) 2 2, .slice (some ⟨H3.next + 1, 0, some 1⟩) 2 2, .slice (some ⟨H3.next + 2, 0, some 1⟩) 2 2, .slice (some ⟨H3.next + 3, 0, some 1⟩) 2 2, .slice (some ⟨H3.next + 4, 0, some 1⟩) 2 2, .slice (some ⟨H3.next + 5, 0, some 1⟩) 2 2, .slice (some ⟨H3.next + 6, 0, some 1⟩) 2 2, .slice (some ⟨H3.next + 7, 0, some 1⟩) 2 2, .slice (some ⟨H3.next + 8, 0, some 1⟩) 2 2, .slice (some ⟨H3.next + 9, 0, some 1⟩) 2 2, .slice (some ⟨H3.next + 10, 0, some 1⟩) 2 2]⟩) [.row c2 ⟨26, true, [.int .i64 0, .int .i64 0, .slice none 0 0]⟩, .row (h + 0) ⟨2, true, ints [4, 2]⟩, .row (h + 1) ⟨2, true, ints [6, 2]⟩, .row (h + 2) ⟨2, true, ints [6, 3]⟩, .row (h + 3) ⟨2, true, ints [8, 2]⟩, .row (h + 4) ⟨2, true, ints [8, 4]⟩, .row (h + 5) ⟨2, true, ints [9, 3]⟩, .row (h + 6) ⟨2, true, ints [12, 3]⟩, .row (h + 7) ⟨2, true, ints [12, 4]⟩, .row (h + 8) ⟨2, true, ints [15, 5]⟩, .row (h + 9) ⟨2, true, ints [6, 6]⟩, .row (h + 10) ⟨2, true, ints [20, 4]⟩, .row (h + 11) ⟨28, true, [.slice (some ⟨h + 0, 0, some 1⟩) 2 2, .slice (some ⟨h + 1, 0, some 1⟩) 2 2, .slice (some ⟨h + 2, 0, some 1⟩) 2 2, .slice (some ⟨h + 3, 0, some 1⟩) 2 2, .slice (some ⟨h + 4, 0, some 1⟩) 2 2, .slice (some ⟨h + 5, 0, some 1⟩) 2 2, .slice (some ⟨h + 6, 0, some 1⟩) 2 2, .slice (some ⟨h + 7, 0, some 1⟩) 2 2, .slice (some ⟨h + 8, 0, some 1⟩) 2 2, .slice (some ⟨h + 9, 0, some 1⟩) 2 2, .slice (some ⟨h + 10, 0, some 1⟩) 2 2]⟩] := by
      rw [eh]
      exact (((((((((((d2.push ⟨2, true, ints [4, 2]⟩).push ⟨2, true, ints [6, 2]⟩).push ⟨2, true, ints [6, 3]⟩).push ⟨2, true, ints [8, 2]⟩).push ⟨2, true, ints [8, 4]⟩).push ⟨2, true, ints [9, 3]⟩).push ⟨2, true, ints [12, 3]⟩).push ⟨2, true, ints [12, 4]⟩).push ⟨2, true, ints [15, 5]⟩).push ⟨2, true, ints [6, 6]⟩).push ⟨2, true, ints [20, 4]⟩).push ⟨28, true, [.slice (some ⟨H3.next + 0, 0, some 1⟩) 2 2, .slice (some ⟨H3.next + 1, 0, some 1⟩) 2 2, .slice (some ⟨H3.next + 2, 0, some 1⟩) 2 2, .slice (some ⟨H3.next + 3, 0, some 1⟩) 2 2, .slice (some ⟨H3.next + 4, 0, some 1⟩) 2 2, .slice (some ⟨H3.next + 5, 0, some 1⟩) 2 2, .slice (some ⟨H3.next + 6, 0, some 1⟩) 2 2, .slice (some ⟨H3.next + 7, 0, some 1⟩) 2 2, .slice (some ⟨H3.next + 8, 0, some 1⟩) 2 2, .slice (some ⟨H3.next + 9, 0, some 1⟩) 2 2, .slice (some ⟨H3.next + 10, 0, some 1⟩) 2 2]⟩
    have ez : (((((((((((H3.push ⟨2, true, ints [4, 2]⟩).push ⟨2, true, ints [6, 2]⟩).push ⟨2, true, ints [6, 3]⟩).push ⟨2, true, ints [8, 2]⟩).push ⟨2, true, ints [8, 4]⟩).push ⟨2, true, ints [9, 3]⟩).push ⟨2, true, ints [12, 3]⟩).push ⟨2, true, ints [12, 4]⟩).push ⟨2, true, ints [15, 5]⟩).push ⟨2, true, ints [6, 6]⟩).push ⟨2, true, ints [20, 4]⟩).next = h + 11 := by rw [eh]; rfl
    rw [ez]
    have hsh : si < h := by have := d2.le; omega
    rw [← eh] at d3 ⊢
    generalize ((((((((((((H3.push ⟨2, true, ints [4, 2]⟩).push ⟨2, true, ints [6, 2]⟩).push ⟨2, true, ints [6, 3]⟩).push ⟨2, true, ints [8, 2]⟩).push ⟨2, true, ints [8, 4]⟩).push ⟨2, true, ints [9, 3]⟩).push ⟨2, true, ints [12, 3]⟩).push ⟨2, true, ints [12, 4]⟩).push ⟨2, true, ints [15, 5]⟩).push ⟨2, true, ints [6, 6]⟩).push ⟨2, true, ints [20, 4]⟩).push ⟨28, true, [.slice (some ⟨h + 0, 0, some 1⟩) 2 2, .slice (some ⟨h + 1, 0, some 1⟩) 2 2, .slice (some ⟨h + 2, 0, some 1⟩) 2 2, .slice (some ⟨h + 3, 0, some 1⟩) 2 2, .slice (some ⟨h + 4, 0, some 1⟩) 2 2, .slice (some ⟨h + 5, 0, some 1⟩) 2 2, .slice (some ⟨h + 6, 0, some 1⟩) 2 2, .slice (some ⟨h + 7, 0, some 1⟩) 2 2, .slice (some ⟨h + 8, 0, some 1⟩) 2 2, .slice (some ⟨h + 9, 0, some 1⟩) 2 2, .slice (some ⟨h + 10, 0, some 1⟩) 2 2]⟩) = H4 at d3 ⊢
    clear ez
    try simp (disch := first | omega | (simp only [L3] <;> omega)) only [Sall,evalOp,init,binA_s,binE,binI,unE,convE,okNil,builtE,gv,TD.isAgg,resV,↓reduceIte,Nat.reduceEqDiff,reduceCtorEq,Nat.reduceAdd,Nat.reduceMul,Nat.reduceLeDiff,quietOp,blindOp,Int.reduceEq,Int.reduceLT,Int.reduceLE,Nat.reduceLT,tiA,tiXA, true_and]
    refine (nextD 11 d3 hsi hc hsc hnb (by omega)).ex ?_
    rintro z H5 ⟨hz, d4⟩
    have hzc : z = 0 ∨ z = 1 ∨ z = 2 ∨ z = 3 ∨ z = 4 ∨ z = 5 ∨ z = 6 ∨ z = 7 ∨ z = 8 ∨ z = 9 ∨ z = 10 := by omega
    have gz := d4.rowAt 12 rfl
    have pick : ∃ (a b : Nat), ([.slice (some ⟨h + 0, 0, some 1⟩) 2 2, .slice (some ⟨h + 1, 0, some 1⟩) 2 2, .slice (some ⟨h + 2, 0, some 1⟩) 2 2, .slice (some ⟨h + 3, 0, some 1⟩) 2 2, .slice (some ⟨h + 4, 0, some 1⟩) 2 2, .slice (some ⟨h + 5, 0, some 1⟩) 2 2, .slice (some ⟨h + 6, 0, some 1⟩) 2 2, .slice (some ⟨h + 7, 0, some 1⟩) 2 2, .slice (some ⟨h + 8, 0, some 1⟩) 2 2, .slice (some ⟨h + 9, 0, some 1⟩) 2 2, .slice (some ⟨h + 10, 0, some 1⟩) 2 2] : List Value)[z]? = some (.slice (some ⟨h + z, 0, some 1⟩) 2 2) ∧ Dq cv nb si H H5 [.row c2 ⟨26, true, [.int .i64 0, .int .i64 0, .slice none 0 0]⟩, .row (h + z) ⟨2, true, ints [(a : Int), (b : Int)]⟩] ∧ (4 ≤ a ∧ a ≤ 20) ∧ (2 ≤ b ∧ b ≤ 6) := by
      rcases hzc with rfl | rfl | rfl | rfl | rfl | rfl | rfl | rfl | rfl | rfl | rfl
      · exact ⟨4, 2, rfl, d4.map fun B o => o.pick2 0 1 rfl rfl (by omega), by omega, by omega⟩
      · exact ⟨6, 2, rfl, d4.map fun B o => o.pick2 0 2 rfl rfl (by omega), by omega, by omega⟩
      · exact ⟨6, 3, rfl, d4.map fun B o => o.pick2 0 3 rfl rfl (by omega), by omega, by omega⟩
      · exact ⟨8, 2, rfl, d4.map fun B o => o.pick2 0 4 rfl rfl (by omega), by omega, by omega⟩
      · exact ⟨8, 4, rfl, d4.map fun B o => o.pick2 0 5 rfl rfl (by omega), by omega, by omega⟩
      · exact ⟨9, 3, rfl, d4.map fun B o => o.pick2 0 6 rfl rfl (by omega), by omega, by omega⟩
      · exact ⟨12, 3, rfl, d4.map fun B o => o.pick2 0 7 rfl rfl (by omega), by omega, by omega⟩
      · exact ⟨12, 4, rfl, d4.map fun B o => o.pick2 0 8 rfl rfl (by omega), by omega, by omega⟩
      · exact ⟨15, 5, rfl, d4.map fun B o => o.pick2 0 9 rfl rfl (by omega), by omega, by omega⟩
      · exact ⟨6, 6, rfl, d4.map fun B o => o.pick2 0 10 rfl rfl (by omega), by omega, by omega⟩
      · exact ⟨20, 4, rfl, d4.map fun B o => o.pick2 0 11 rfl rfl (by omega), by omega, by omega⟩
    clear hzc
    obtain ⟨a, b, pz, d5, ha, hb⟩ := pick
    have yn : ((z : Nat) : Int).toNat = z := rfl
    have gy := d5.rowAt 1 rfl
    have i0 : (ints [(a : Int), (b : Int)])[0]? = some (.int .i64 a) := rfl
    have i1 : (ints [(a : Int), (b : Int)])[1]? = some (.int .i64 b) := rfl
    generalize ([.slice (some ⟨h + 0, 0, some 1⟩) 2 2, .slice (some ⟨h + 1, 0, some 1⟩) 2 2, .slice (some ⟨h + 2, 0, some 1⟩) 2 2, .slice (some ⟨h + 3, 0, some 1⟩) 2 2, .slice (some ⟨h + 4, 0, some 1⟩) 2 2, .slice (some ⟨h + 5, 0, some 1⟩) 2 2, .slice (some ⟨h + 6, 0, some 1⟩) 2 2, .slice (some ⟨h + 7, 0, some 1⟩) 2 2, .slice (some ⟨h + 8, 0, some 1⟩) 2 2, .slice (some ⟨h + 9, 0, some 1⟩) 2 2, .slice (some ⟨h + 10, 0, some 1⟩) 2 2] : List Value) = outer at pz gz
    refine Holds.mp ?_
    try simp (disch := first | omega | (simp only [L3] <;> omega)) only [Sall,evalOp,init,binA_s,binE,binI,unE,convE,okNil,builtE,gv,TD.isAgg,resV,↓reduceIte,Nat.reduceEqDiff,reduceCtorEq,Nat.reduceAdd,Nat.reduceMul,Nat.reduceLeDiff,quietOp,blindOp,Int.reduceEq,Int.reduceLT,Int.reduceLE,Nat.reduceLT,tiA,tiXA, gz, pz, yn]
    refine ⟨by omega, ?_⟩
    refine awp_cutQ (fun t H' => ∃ (wi oi : Nat), t 11 = .pointer (some ⟨oi, 0, none⟩) ∧ t 10 = .slice (some ⟨h + z, 0, some 1⟩) 2 2 ∧ t 0 = .pointer (some ⟨si, 0, none⟩) ∧ t 2 = .pointer (some ⟨c2, 0, none⟩) ∧ oi ≠ si ∧ Dq cv nb si H H' [.row c2 ⟨26, true, [.int .i64 0, .int .i64 0, .slice none 0 0]⟩, .row (h + z) ⟨2, true, ints [(a : Int), (b : Int)]⟩, .sl2 (Value.int .i64) 28 2 (.slice (some ⟨wi, 0, some 1⟩) 0 0) [], .row oi ⟨26, true, [.int .i64 a, .int .i64 b, .slice (some ⟨wi, 0, some 1⟩) 0 0]⟩]) ?_ ?_
    · have hle := d5.le
      refine draw_tree (OT.run [0, 1, 2, 3, 4, 5] (.two 6 8 (OT.run [7, 8, 9] .nil) (OT.run [6, 7, 9] .nil))) (by kernel_rfl) (by kernel_rfl) (Nat.le_of_ble_eq_true rfl) ?_
      have t0 : Int.toNat 0 = 0 := rfl
      have t1 : Int.toNat 1 = 1 := rfl
      have l0 : ((0 : Int) < ((2 : Nat) : Int)) = True := eq_true (by omega)
      have l1 : ((1 : Int) < ((2 : Nat) : Int)) = True := eq_true (by omega)
      try simp (disch := first | omega | (simp only [L3] <;> omega)) only [Sall,evalOp,init,binA_s,binE,binI,unE,convE,okNil,builtE,gv,TD.isAgg,resV,↓reduceIte,Nat.reduceEqDiff,reduceCtorEq,Nat.reduceAdd,Nat.reduceMul,Nat.reduceLeDiff,quietOp,blindOp,Int.reduceEq,Int.reduceLT,Int.reduceLE,Nat.reduceLT,tiA,tiXA, awpT_nil, awpT_one, awpT_run_nil, awpT_run_cons, gy, i0, i1, t0, t1, l0, l1]
      refine awpT_two ?_ ?_
      · try simp (disch := first | omega | (simp only [L3] <;> omega)) only [Sall,evalOp,init,binA_s,binE,binI,unE,convE,okNil,builtE,gv,TD.isAgg,resV,↓reduceIte,Nat.reduceEqDiff,reduceCtorEq,Nat.reduceAdd,Nat.reduceMul,Nat.reduceLeDiff,quietOp,blindOp,Int.reduceEq,Int.reduceLT,Int.reduceLE,Nat.reduceLT,tiA,tiXA, awpT_nil, awpT_one, awpT_run_nil, awpT_run_cons, gy, i0, i1, t0, t1, l0, l1, zeros_zero]
        refine ⟨.inr (.inr (d5.sc.le _)), .inr (.inr ((d5.sc.push _).le _)), .inr (.inl (by kernel_rfl)), H5.next, H5.next + 1, rfl, by omega, ?_⟩
        exact (d5.map fun B o => (o.pushSl2 (Value.int .i64) 28 2)).push ⟨26, true, [.int .i64 0, .int .i64 0, .slice none 0 0]⟩ |>.putRow 3 rfl (cs' := [.int .i64 a, .int .i64 b, .slice (some ⟨H5.next, 0, some 1⟩) 0 0])
      · try simp (disch := first | omega | (simp only [L3] <;> omega)) only [Sall,evalOp,init,binA_s,binE,binI,unE,convE,okNil,builtE,gv,TD.isAgg,resV,↓reduceIte,Nat.reduceEqDiff,reduceCtorEq,Nat.reduceAdd,Nat.reduceMul,Nat.reduceLeDiff,quietOp,blindOp,Int.reduceEq,Int.reduceLT,Int.reduceLE,Nat.reduceLT,tiA,tiXA, awpT_nil, awpT_one, awpT_run_nil, awpT_run_cons, gy, i0, i1, t0, t1, l0, l1, zeros_zero]
        refine ⟨.inr (.inr (d5.sc.le _)), .inr (.inr ((d5.sc.push _).le _)), .inr (.inl (by kernel_rfl)), H5.next + 1, H5.next, rfl, by omega, ?_⟩
        have d6 := (d5.push ⟨26, true, [.int .i64 0, .int .i64 0, .slice none 0 0]⟩).map fun B o => (o.pushSl2 (Value.int .i64) 28 2).putRow 2 rfl (cs' := [.int .i64 a, .int .i64 b, .slice (some ⟨H5.next + 1, 0, some 1⟩) 0 0])
        refine d6.map fun B o => o.sub (fun j => if j = 2 then 3 else if j = 3 then 2 else j) (fun j hj => ?_) fun x y hx hy h => ?_
        · have hj : j < 4 := hj
          rcases j with _ | _ | _ | _ | j <;> first | rfl | omega
        · split at h <;> split at h <;> (try split at h) <;> (try split at h) <;> omega
    · rintro t H6 ⟨wi, oi, h11, h10, h0, h2, noi, d6⟩
      have hb3 : ∀ (t : T) (H : AH), evalOp Tryz.prog t H (.buildSlice 28 3 #[(0, .const (.int .i64 2)), (1, .const (.int .i64 3)), (2, .const (.int .i64 5))]) = .need (3 ≤ 16777216 ∧ 3 * 1 ≤ 16777216) (.val (.slice (some ⟨H.next, 0, some 1⟩) 3 3) (H.push ⟨2, true, ints [2, 3, 5]⟩)) := fun t H => by kernel_rfl
      generalize (Op.buildSlice 28 3 #[(0, .const (.int .i64 2)), (1, .const (.int .i64 3)), (2, .const (.int .i64 5))]) = bop3 at hb3 ⊢
      simp (config := {maxSteps := 3000000}) (disch := first | omega | (simp only [L3] <;> omega)) only [Sall,evalOp,init,binA_s,binE,binI,unE,convE,okNil,builtE,gv,TD.isAgg,resV,↓reduceIte,Nat.reduceEqDiff,reduceCtorEq,Nat.reduceAdd,Nat.reduceMul,Nat.reduceLeDiff,quietOp,blindOp,Int.reduceEq,Int.reduceLT,Int.reduceLE,Nat.reduceLT,tiA,tiXA, ↓hb3, h0]
      refine (pickL [2, 3, 5] 3 rfl (by omega) (by omega) d6 hsi hc hsc hnb).ex ?_
      rintro x H7 ⟨hx, d7⟩
      have hx2 : 2 ≤ x ∧ x ≤ 5 := by
        simp only [List.mem_cons, List.not_mem_nil, or_false] at hx
        omega
      clear hx
      refine Holds.mp ?_
      try simp (disch := first | omega | (simp only [L3] <;> omega)) only [Sall,evalOp,init,binA_s,binE,binI,unE,convE,okNil,builtE,gv,TD.isAgg,resV,↓reduceIte,Nat.reduceEqDiff,reduceCtorEq,Nat.reduceAdd,Nat.reduceMul,Nat.reduceLeDiff,quietOp,blindOp,Int.reduceEq,Int.reduceLT,Int.reduceLE,Nat.reduceLT,tiA,tiXA, true_and]
      refine (nextD x d7 hsi hc hsc hnb (by omega)).ex ?_
      rintro m0 H8 ⟨hm0, d8⟩
      refine Holds.mp ?_
      try simp (disch := first | omega | (simp only [L3] <;> omega)) only [Sall,evalOp,init,binA_s,binE,binI,unE,convE,okNil,builtE,gv,TD.isAgg,resV,↓reduceIte,Nat.reduceEqDiff,reduceCtorEq,Nat.reduceAdd,Nat.reduceMul,Nat.reduceLeDiff,quietOp,blindOp,Int.reduceEq,Int.reduceLT,Int.reduceLE,Nat.reduceLT,tiA,tiXA, true_and]
      refine awp_loop (fun m t H' => ∃ (wv : Value) (R : List (List Int)), m ≤ m0 ∧ t 12 = .int .i64 m ∧ t 11 = .pointer (some ⟨oi, 0, none⟩) ∧ t 10 = .slice (some ⟨h + z, 0, some 1⟩) 2 2 ∧ t 0 = .pointer (some ⟨si, 0, none⟩) ∧ t 2 = .pointer (some ⟨c2, 0, none⟩) ∧ R.length + m = m0 ∧ (∀ r ∈ R, r.length ≤ 1000) ∧ Dq cv nb si H H' [.row c2 ⟨26, true, [.int .i64 0, .int .i64 0, .slice none 0 0]⟩, .row (h + z) ⟨2, true, ints [(a : Int), (b : Int)]⟩, .sl2 (Value.int .i64) 28 2 wv R, .row oi ⟨26, true, [.int .i64 a, .int .i64 b, wv]⟩]) m0 ?_ ?_
      · refine ⟨.slice (some ⟨wi, 0, some 1⟩) 0 0, [], Nat.le_refl _, ?_⟩
        try simp (disch := first | omega | (simp only [L3] <;> omega)) only [Sall,evalOp,init,binA_s,binE,binI,unE,convE,okNil,builtE,gv,TD.isAgg,resV,↓reduceIte,Nat.reduceEqDiff,reduceCtorEq,Nat.reduceAdd,Nat.reduceMul,Nat.reduceLeDiff,quietOp,blindOp,Int.reduceEq,Int.reduceLT,Int.reduceLE,Nat.reduceLT,tiA,tiXA, h11, h10, h0, h2]
        exact ⟨by simp, d8⟩
      · rintro m t Ha ⟨wv, R, hm, h12, h11, h10, h0, h2, hR, hR3, d9⟩
        try simp (disch := first | omega | (simp only [L3] <;> omega)) only [Sall,evalOp,init,binA_s,binE,binI,unE,convE,okNil,builtE,gv,TD.isAgg,resV,↓reduceIte,Nat.reduceEqDiff,reduceCtorEq,Nat.reduceAdd,Nat.reduceMul,Nat.reduceLeDiff,quietOp,blindOp,Int.reduceEq,Int.reduceLT,Int.reduceLE,Nat.reduceLT,tiA,tiXA, h12]
        refine condC_dec (fun hh => ?_) (fun hh => ?_)
        · have g3 := d9.rowAt 3 rfl
          have g1 := d9.rowAt 1 rfl
          have hw := (d9.rd2 2 rfl).one
          have t0 : Int.toNat 0 = 0 := rfl
          have l0 : ((0 : Int) < ((2 : Nat) : Int)) = True := eq_true (by omega)
          have nhz : ¬ h + z = si := by omega
          try simp (disch := first | omega | (simp only [L3] <;> omega)) only [Sall,evalOp,init,binA_s,binE,binI,unE,convE,okNil,builtE,gv,TD.isAgg,resV,↓reduceIte,Nat.reduceEqDiff,reduceCtorEq,Nat.reduceAdd,Nat.reduceMul,Nat.reduceLeDiff,quietOp,blindOp,Int.reduceEq,Int.reduceLT,Int.reduceLE,Nat.reduceLT,tiA,tiXA, true_and]
          refine draw_inS (fun j => j ≠ si) [0, 1, 2, 3, 4, 5, 6, 7, 8, 9, 10] (by kernel_rfl) (by kernel_rfl) (by kernel_rfl) ?_
          try simp (disch := first | omega | (simp only [L3] <;> omega)) only [Sall,evalOp,init,binA_s,binE,binI,unE,convE,okNil,builtE,gv,TD.isAgg,resV,↓reduceIte,Nat.reduceEqDiff,reduceCtorEq,Nat.reduceAdd,Nat.reduceMul,Nat.reduceLeDiff,quietOp,blindOp,Int.reduceEq,Int.reduceLT,Int.reduceLE,Nat.reduceLT,tiA,tiXA, awpIS_nil, awpIS_cons, stepIS_op, loadOk, h0, h10, h11, g3, g1, hw, noi, nhz, t0, l0, i0]
          refine (l01DrawOrder_c cv nb si a Ha (by omega) hnb (d9.src hsi) (d9.code hc hsc)).mono ?_
          rintro ov Hb ⟨y, B8, k8, o8, hpl⟩
          rw [Int.toNat_natCast] at o8 hpl
          have da := d9.call hsi k8 o8
          have hov := o8.one 0 rfl
          have zz : zeros 1 [.slice none 0 0] = [.slice none 0 0] := rfl
          have hq1 := cells_of_one hov
          have hq2 := noTuple_of_one hov
          have hq3 := fun rr => ok_one (r := rr) hov
          refine ⟨.inr (.inr (les_of k8 o8 d9.sc)), ?_⟩
          try simp (disch := first | omega | (simp only [L3] <;> omega)) only [Sall,evalOp,init,binA_s,binE,binI,unE,convE,okNil,builtE,gv,TD.isAgg,resV,↓reduceIte,Nat.reduceEqDiff,reduceCtorEq,Nat.reduceAdd,Nat.reduceMul,Nat.reduceLeDiff,quietOp,blindOp,Int.reduceEq,Int.reduceLT,Int.reduceLE,Nat.reduceLT,tiA,tiXA, awpIS_nil, awpIS_cons, stepIS_op, loadOk, h0, h10, h11, hov, hw, noi, nhz, zz, hq1, hq2, hq3, slCells]
          refine ⟨.inr (.inr (LE.les (da.sc.le _))), ?_⟩
          obtain ⟨B9, b9, o9⟩ := id da.ex
          have hyl := hpl.len
          rw [← hyl] at o9
          refine (o9.tmp ⟨28, true, [ov]⟩).app2 (l := y) 2 4 rfl rfl (by omega) rfl (by decide) (by omega) ?_
          intro v' Hc nc oc
          rw [hyl] at oc
          have g3' := (oc.rowAt 3 rfl).1
          have hv' := (oc.rd2 2 rfl).one
          have oe := oc.putRow 3 rfl (cs' := [.int .i64 a, .int .i64 b, v'])
          refine ⟨.inr (.inl (by kernel_rfl)), ?_⟩
          try simp (disch := first | omega | (simp only [L3] <;> omega)) only [Sall,evalOp,init,binA_s,binE,binI,unE,convE,okNil,builtE,gv,TD.isAgg,resV,↓reduceIte,Nat.reduceEqDiff,reduceCtorEq,Nat.reduceAdd,Nat.reduceMul,Nat.reduceLeDiff,quietOp,blindOp,Int.reduceEq,Int.reduceLT,Int.reduceLE,Nat.reduceLT,tiA,tiXA, awpIS_nil, awpIS_cons, stepIS_op, loadOk, h12, h0, h2, h10, h11, g3', hv', noi, nhz, w64]
          refine ⟨.inr (.inl (by kernel_rfl)), ?_⟩
          refine ⟨m - 1, by omega, v', R ++ [y], by omega, by omega, by rw [List.length_append]; simp; omega, fun r hr => ?_, ⟨⟨B9, b9, ?_⟩⟩⟩
          · rcases List.mem_append.1 hr with hh2 | hh2
            · exact hR3 r hh2
            · rw [List.mem_singleton] at hh2; rw [hh2]; omega
          · exact Ow.left (L := [.row c2 ⟨26, true, [.int .i64 0, .int .i64 0, .slice none 0 0]⟩, .row (h + z) ⟨2, true, ints [(a : Int), (b : Int)]⟩, .sl2 (Value.int .i64) 28 2 v' (R ++ [y]), .row oi ⟨26, true, [.int .i64 a, .int .i64 b, v']⟩]) oe
        · have hm0 : m = 0 := by omega
          have g3 := d9.rowAt 3 rfl
          have g0 := d9.rowAt 0 rfl
          have hw := (d9.rd2 2 rfl).one
          try simp (disch := first | omega | (simp only [L3] <;> omega)) only [Sall,evalOp,init,binA_s,binE,binI,unE,convE,okNil,builtE,gv,TD.isAgg,resV,↓reduceIte,Nat.reduceEqDiff,reduceCtorEq,Nat.reduceAdd,Nat.reduceMul,Nat.reduceLeDiff,quietOp,blindOp,Int.reduceEq,Int.reduceLT,Int.reduceLE,Nat.reduceLT,tiA,tiXA, h2, h11, g3, g0, hw]
          have da := d9.putRow 0 rfl (cs' := [.int .i64 a, .int .i64 b, wv])
          have hsl := da.sld 2 rfl
          obtain ⟨ws, db⟩ := da.sl2Rc 2 rfl
          exact ⟨a, b, wv, ws, R, rfl, by omega, by omega, ⟨by omega, hR3⟩, hsl, db⟩
end Go.Proofs.YtollphjompimjaaGreat.A
end

section
set_option maxRecDepth 100000
set_option maxHeartbeats 2000000
namespace Go.Proofs.YtollphjompimjaaGreat.A
open Go Go.Abs Go.RowKit
theorem Dq.lowEq {cv : Value} {nb si : Nat} {H H' : AH} {L : List Th} (h : Dq cv nb si H H' L) {i : Nat} (hi : i < H.next) (hs : i ≠ si) : H'.row i = H.row i := by
  obtain ⟨B, b, o⟩ := h.ex
  rw [o.low i (by rw [b.next]; exact hi), b.row i hs]
theorem Dq.shift {cv : Value} {nb si : Nat} {H H' : AH} {L : List Th} (h : Dq cv nb si H H' L) {i : Nat} (hi : i < H.next) (cs : List Value) : ∃ B, B.next = H.next ∧ Ow B (H'.setCells i cs) L := by
  obtain ⟨B, b, o⟩ := h.ex
  have hb := b.next
  refine ⟨⟨B.next, fun j => (H'.setCells i cs).row j⟩, hb, o.sc.set _ _, o.next, fun j hj => rfl, ?_⟩
  obtain ⟨w, hw⟩ := o.own
  refine ⟨w, fun k p hk => p.loc H' _ _ _ (fun j hj => hj) (fun j r hj hr => ?_) (hw k p hk)⟩
  have : B.next ≤ j := hj.1
  rw [AH.setCells_row, if_neg (by omega)]; exact hr
theorem Ow.capRow {B H : AH} {L : List Th} (h : Ow B H L) (k : Nat) {z n : Nat} {ty : TypeId} {v : Value} {vs : List Value} (hk : L[k]? = some (.cap z ty v n vs)) : ∀ i o s n c, v = .slice (some ⟨i, o, s⟩) n c → ∃ r, H.row i = some r ∧ o ≤ r.cells.length := by
  obtain ⟨S, _, hp⟩ := h.at hk
  intro i o s n c e
  rcases hp.2 with ⟨_, h1⟩ | ⟨i', rest, _, h1, h2⟩
  · rw [h1] at e; cases e
  · rw [h1] at e; cases e
    exact ⟨_, h2, Nat.zero_le _⟩
theorem Rs.later {z n : Nat} {H H' : AH} {v : Value} {l : List Int} (h : Rs z H v n l) (hs : ∀ i r, H.row i = some r → H'.row i = some r) : Rs z H' v n l := h.same hs
end Go.Proofs.YtollphjompimjaaGreat.A
end

section
set_option maxRecDepth 100000
set_option maxHeartbeats 2000000
namespace Go.Proofs.YtollphjompimjaaGreat.A
open Go Go.Abs Go.RowKit
theorem codeUp {cv : Value} {nb : Nat} {H H' : AH} (h : CodeOk H cv nb) (k : ∀ i r, H.row i = some r → H'.row i = some r) : CodeOk H' cv nb := by
  rcases h with h | ⟨i, o, u, c, r, q1, q2, q3⟩
  · exact .inl h
  · exact .inr ⟨i, o, u, c, r, q1, k _ _ q2, q3⟩
end Go.Proofs.YtollphjompimjaaGreat.A
end

section
set_option maxRecDepth 100000
set_option maxHeartbeats 2000000
namespace Go.Proofs.YtollphjompimjaaGreat.A
open Go Go.Abs Go.RowKit
def BadG (lo : Nat) (cv : Value) (nb si : Nat) (H : AH) (v : Value) (H' : AH) : Prop :=
  ∃ (q g : Int) (u : Value) (ll : List (List Int)), v = .agg #[.int .i64 q, .int .i64 g, u] ∧ (0 ≤ q ∧ q ≤ 27) ∧ (-2 ≤ g ∧ g ≤ 25) ∧ (ll.length ≤ 7 ∧ ∀ r ∈ ll, r.length ≤ 1000) ∧ Dq cv nb si H H' [] ∧ Sld 1 u ll.length ∧ ∃ ws, ∀ H2, (∀ i r, lo ≤ i → i ≠ si → H'.row i = some r → H2.row i = some r) → Rc u ws ll H2
theorem l08Bad_c (cv : Value) (nb si lo : Nat) (q g : Int) (u : Value) (ws : List Value) (ll : List (List Int)) (H : AH) (hq : 0 ≤ q ∧ q ≤ 25) (hg : 0 ≤ g ∧ g ≤ 25) (hll : GlL ll) (hsl : Sld 1 u ll.length) (hlo : lo ≤ H.next) (hv : ∀ H', (∀ i r, lo ≤ i → i ≠ si → H.row i = some r → H'.row i = some r) → Rc u ws ll H') (hnb : nb ≤ 4611686018427387904) (hs : Src cv nb si H) (hc : CodeX cv nb si H) :
    ACalls Tryz.prog 52 [.pointer (some ⟨si, 0, none⟩), .agg #[.int .i64 q, .int .i64 g, u]] H (BadG lo cv nb si H) := by
  refine ACalls.wf (by kernel_rfl) fun hsc => acalls_of_awp [.cell 4 26] Tryz.func52 (by kernel_rfl) rfl rfl (Nat.le_of_ble_eq_true rfl) (by kernel_rfl) ?_
  obtain ⟨_, _, hrow, _⟩ := id hs
  have hsi := hsc _ _ hrow
  clear hrow
  have hone := (hv H fun _ _ _ _ h => h).rg.one
  have d0 := ((Dq.start hs hsc).push ⟨26, true, [.int .i64 q, .int .i64 g, u]⟩).push ⟨26, true, [.int .i64 0, .int .i64 0, .slice none 0 0]⟩
  have d0 : Dq cv nb si H ((H.push ⟨26, true, [.int .i64 q, .int .i64 g, u]⟩).push ⟨26, true, [.int .i64 0, .int .i64 0, .slice none 0 0]⟩) [.row H.next ⟨26, true, [.int .i64 q, .int .i64 g, u]⟩, .row (H.next + 1) ⟨26, true, [.int .i64 0, .int .i64 0, .slice none 0 0]⟩] := d0
  try simp (disch := first | omega | (simp only [L3] <;> omega)) only [Sall,evalOp,init,binA_s,binE,binI,unE,convE,okNil,builtE,gv,TD.isAgg,resV,↓reduceIte,Nat.reduceEqDiff,reduceCtorEq,Nat.reduceAdd,Nat.reduceMul,Nat.reduceLeDiff,quietOp,blindOp,Int.reduceEq,Int.reduceLT,Int.reduceLE,Nat.reduceLT,tiA,tiXA, hone]
  obtain ⟨pi, epi⟩ : ∃ pi, pi = H.next := ⟨_, rfl⟩
  rw [← epi] at d0 ⊢
  have npi : ¬ pi = si := by omega
  generalize (H.push ⟨26, true, [.int .i64 q, .int .i64 g, u]⟩).push ⟨26, true, [.int .i64 0, .int .i64 0, .slice none 0 0]⟩ = H1 at d0 ⊢
  refine (nextD 30 d0 hsi hc hsc hnb (by omega)).ex ?_
  rintro c H2 ⟨hc3, d1⟩
  refine Holds.mp ?_
  have g0 := d1.rowAt 0 rfl
  have g1 := d1.rowAt 1 rfl
  have npp : ¬ pi = pi + 1 := by omega
  have npp2 : ¬ pi + 1 = pi := by omega
  by_cases c0 : (c : Int) = 0
  · have f0 : ((c : Int) == 0) = true := beq_iff_eq.2 c0
    have zz4 : zeros 4 [.int .i64 0] = [.int .i64 0, .int .i64 0, .int .i64 0, .int .i64 0] := rfl
    simp (config := {maxSteps := 3000000}) (disch := first | omega | (simp only [L3] <;> omega)) only [Sall,evalOp,init,binA_s,binE,binI,unE,convE,okNil,builtE,gv,TD.isAgg,resV,↓reduceIte,Nat.reduceEqDiff,reduceCtorEq,Nat.reduceAdd,Nat.reduceMul,Nat.reduceLeDiff,quietOp,blindOp,Int.reduceEq,Int.reduceLT,Int.reduceLE,Nat.reduceLT,tiA,tiXA, f0, g0, g1, w64, zz4]
    refine (pickL [1, 26, 27, q + 1] 4 rfl (by omega) (by omega) d1 hsi hc hsc hnb).ex ?_
    rintro p H3 ⟨hp, d2⟩
    have hp2 : 0 ≤ p ∧ p ≤ 27 := by
      simp only [List.mem_cons, List.not_mem_nil, or_false] at hp
      omega
    have g0' := d2.rowAt 0 rfl
    have g1' := d2.rowAt 1 rfl
    refine Holds.mp ?_
    try simp (disch := first | omega | (simp only [L3] <;> omega)) only [Sall,evalOp,init,binA_s,binE,binI,unE,convE,okNil,builtE,gv,TD.isAgg,resV,↓reduceIte,Nat.reduceEqDiff,reduceCtorEq,Nat.reduceAdd,Nat.reduceMul,Nat.reduceLeDiff,quietOp,blindOp,Int.reduceEq,Int.reduceLT,Int.reduceLE,Nat.reduceLT,tiA,tiXA, g0', g1', hone, npp, npp2]
    have d3 := (d2.putRow 0 rfl (cs' := [.int .i64 p, .int .i64 g, u])).putRow 1 rfl (cs' := [.int .i64 p, .int .i64 g, u])
    exact ⟨p, g, u, ll, rfl, hp2, by omega, ⟨by have := hll.1; omega, hll.2⟩, Dq.left (L := []) d3, hsl, ws, fun H2 h2 => hv H2 fun i r hl hi hr => h2 i r hl hi (d3.old hsc i r hi hr)⟩
  · have f0 : ((c : Int) == 0) = false := beq_eq_false_iff_ne.2 c0
    by_cases c1 : (c : Int) = 1
    · have f1 : ((c : Int) == 1) = true := beq_iff_eq.2 c1
      have hb : ∀ (t : T) (H : AH), evalOp Tryz.prog t H (.buildSlice 28 4 #[(0, .const (.int .i64 1)), (1, .const (.int .i64 0)), (2, .const (.int .i64 7)), (3, .const (.int .i64 (-2)))]) = .need (4 ≤ 16777216 ∧ 4 * 1 ≤ 16777216) (.val (.slice (some ⟨H.next, 0, some 1⟩) 4 4) (H.push ⟨2, true, ints [1, 0, 7, -2]⟩)) := fun t H => by kernel_rfl
      generalize (Op.buildSlice 28 4 #[(0, .const (.int .i64 1)), (1, .const (.int .i64 0)), (2, .const (.int .i64 7)), (3, .const (.int .i64 (-2)))]) = bop at hb ⊢
      simp (config := {maxSteps := 3000000}) (disch := first | omega | (simp only [L3] <;> omega)) only [Sall,evalOp,init,binA_s,binE,binI,unE,convE,okNil,builtE,gv,TD.isAgg,resV,↓reduceIte,Nat.reduceEqDiff,reduceCtorEq,Nat.reduceAdd,Nat.reduceMul,Nat.reduceLeDiff,quietOp,blindOp,Int.reduceEq,Int.reduceLT,Int.reduceLE,Nat.reduceLT,tiA,tiXA, f0, f1, ↓hb, g0, g1]
      refine (pickL [1, 0, 7, -2] 4 rfl (by omega) (by omega) d1 hsi hc hsc hnb).ex ?_
      rintro p H3 ⟨hp, d2⟩
      have hp2 : -2 ≤ p ∧ p ≤ 7 := by
        simp only [List.mem_cons, List.not_mem_nil, or_false] at hp
        omega
      have g0' := d2.rowAt 0 rfl
      have g1' := d2.rowAt 1 rfl
      refine Holds.mp ?_
      try simp (disch := first | omega | (simp only [L3] <;> omega)) only [Sall,evalOp,init,binA_s,binE,binI,unE,convE,okNil,builtE,gv,TD.isAgg,resV,↓reduceIte,Nat.reduceEqDiff,reduceCtorEq,Nat.reduceAdd,Nat.reduceMul,Nat.reduceLeDiff,quietOp,blindOp,Int.reduceEq,Int.reduceLT,Int.reduceLE,Nat.reduceLT,tiA,tiXA, g0', g1', hone, npp, npp2]
      have d3 := (d2.putRow 0 rfl (cs' := [.int .i64 q, .int .i64 p, u])).putRow 1 rfl (cs' := [.int .i64 q, .int .i64 p, u])
      exact ⟨q, p, u, ll, rfl, by omega, by omega, ⟨by have := hll.1; omega, hll.2⟩, Dq.left (L := []) d3, hsl, ws, fun H2 h2 => hv H2 fun i r hl hi hr => h2 i r hl hi (d3.old hsc i r hi hr)⟩
    · have f1 : ((c : Int) == 1) = false := beq_eq_false_iff_ne.2 c1
      by_cases c2 : (c : Int) = 2
      · have f2 : ((c : Int) == 2) = true := beq_iff_eq.2 c2
        have zz0 : zeros 0 [.slice none 0 0] = [] := rfl
        have d2 := d1.map fun B o => o.pushSl (k := 1) (n := 0) (ty := 28) (vs := []) rfl
        have hwl : ws.length = ll.length := (hv H fun _ _ _ _ h => h).1.1
        have hl64 := hll.1
        have hv2 := hv _ fun i r _ => d2.old hsc i r
        have npi2 : ¬ pi = H2.next := by obtain ⟨B, b, o⟩ := id d1.ex; have := (o.rowAt 0 rfl).2.2; omega
        simp (config := {maxSteps := 3000000}) (disch := first | omega | (simp only [L3] <;> omega)) only [Sall,evalOp,init,binA_s,binE,binI,unE,convE,okNil,builtE,gv,TD.isAgg,resV,↓reduceIte,Nat.reduceEqDiff,reduceCtorEq,Nat.reduceAdd,Nat.reduceMul,Nat.reduceLeDiff,quietOp,blindOp,Int.reduceEq,Int.reduceLT,Int.reduceLE,Nat.reduceLT,tiA,tiXA, f0, f1, f2, g0, g1, hone, npi2, w64, zz0]
        obtain ⟨B2, b2, o2⟩ := id d2.ex
        refine o2.appWC 2 rfl hv2 rfl (by decide) (by omega) ?_
        intro v3 H3 n3 o3
        have o3 : Ow B2 H3 [.row pi ⟨26, true, [.int .i64 q, .int .i64 g, u]⟩, .row (pi + 1) ⟨26, true, [.int .i64 0, .int .i64 0, .slice none 0 0]⟩, .sl 1 28 v3 (0 + ws.length) ws] := o3
        have hv3 := o3.one 2 rfl
        have zi : zeros 3 [.int .i64 0] = [.int .i64 0, .int .i64 0, .int .i64 0] := rfl
        have zs1 : zeros 1 [.slice none 0 0] = [.slice none 0 0] := rfl
        have sp0 : splice ([.int .i64 0, .int .i64 0, .int .i64 0] : List Value) 0 [.int .i64 0] = [.int .i64 0, .int .i64 0, .int .i64 0] := rfl
        have sp1 : splice ([.int .i64 0, .int .i64 0, .int .i64 0] : List Value) 1 [.int .i64 1] = [.int .i64 0, .int .i64 1, .int .i64 0] := rfl
        have sp2 : splice ([.int .i64 0, .int .i64 1, .int .i64 0] : List Value) 2 [.int .i64 1] = [.int .i64 0, .int .i64 1, .int .i64 1] := rfl
        simp (config := {maxSteps := 3000000}) (disch := first | omega | (simp only [L3] <;> omega)) only [Sall,evalOp,init,binA_s,binE,binI,unE,convE,okNil,builtE,gv,TD.isAgg,resV,↓reduceIte,Nat.reduceEqDiff,reduceCtorEq,Nat.reduceAdd,Nat.reduceMul,Nat.reduceLeDiff,quietOp,blindOp,Int.reduceEq,Int.reduceLT,Int.reduceLE,Nat.reduceLT,tiA,tiXA, hv3, zi, zs1, sp0, sp1, sp2, slCells]
        have o4 := o3.pushSl (k := 1) (n := 3) (ty := 2) (vs := ints [0, 1, 1]) rfl
        refine (o4.tmp ⟨28, true, [.slice (some ⟨H3.next, 0, some 1⟩) 3 3]⟩).app 2 rfl rfl (by omega) rfl (by omega) (by decide) (by omega) ?_
        intro v5 H5 n5 o5
        have hv5 := o5.one 2 rfl
        have h0 := (o5.rowAt 0 rfl).1
        have h1 := (o5.rowAt 1 rfl).1
        simp (config := {maxSteps := 3000000}) (disch := first | omega | (simp only [L3] <;> omega)) only [Sall,evalOp,init,binA_s,binE,binI,unE,convE,okNil,builtE,gv,TD.isAgg,resV,↓reduceIte,Nat.reduceEqDiff,reduceCtorEq,Nat.reduceAdd,Nat.reduceMul,Nat.reduceLeDiff,quietOp,blindOp,Int.reduceEq,Int.reduceLT,Int.reduceLE,Nat.reduceLT,tiA,tiXA, hv3, hv5, h0, h1, npp, npp2]
        have d6 : Dq cv nb si H ((H5.setCells pi [.int .i64 q, .int .i64 g, v5]).setCells (pi + 1) [.int .i64 q, .int .i64 g, v5]) [.row pi ⟨26, true, [.int .i64 q, .int .i64 g, v5]⟩, .row (pi + 1) ⟨26, true, [.int .i64 q, .int .i64 g, v5]⟩, .sl 1 28 v5 (0 + ws.length + 1) (ws ++ [.slice (some ⟨H3.next, 0, some 1⟩) 3 3]), .sl 1 2 (.slice (some ⟨H3.next, 0, some 1⟩) 3 3) 3 (ints [0, 1, 1])] := ⟨⟨B2, b2, (o5.putRow 0 rfl (cs' := [.int .i64 q, .int .i64 g, v5])).putRow 1 rfl (cs' := [.int .i64 q, .int .i64 g, v5])⟩⟩
        refine ⟨q, g, v5, ll ++ [[0, 1, 1]], rfl, by omega, by omega, ⟨by simp; omega, fun r hr => ?_⟩, Dq.left (L := []) d6, ?_, ws ++ [.slice (some ⟨H3.next, 0, some 1⟩) 3 3], fun H2 h2 => ?_⟩
        · rcases List.mem_append.1 hr with h | h
          · exact hll.2 r h
          · rw [List.mem_singleton] at h; rw [h]; decide
        · obtain ⟨S1, p1⟩ := d6.laterP hsi 2 rfl _ fun i r _ _ h => h
          have em : 0 + ws.length + 1 = (ll ++ [[0, 1, 1]]).length := by rw [List.length_append, Nat.zero_add, hwl]; rfl
          rw [← em]
          rcases p1.2 with ⟨_, e⟩ | ⟨i, _, e, _⟩
          · exact .inl e
          · exact .inr (.inl ⟨i, 0, _, e⟩)
        · obtain ⟨S1, p1⟩ := d6.laterP hsi 2 rfl H2 fun i r hl => h2 i r (by omega)
          obtain ⟨S2, p2⟩ := d6.laterP hsi 3 rfl H2 fun i r hl => h2 i r (by omega)
          exact rc_of_sl ((hv H2 fun i r hl hi hr => h2 i r hl hi (d6.old hsc i r hi hr)).1.snoc (sl_rs p2)) p1
      · have f2 : ((c : Int) == 2) = false := beq_eq_false_iff_ne.2 c2
        simp (config := {maxSteps := 3000000}) (disch := first | omega | (simp only [L3] <;> omega)) only [Sall,evalOp,init,binA_s,binE,binI,unE,convE,okNil,builtE,gv,TD.isAgg,resV,↓reduceIte,Nat.reduceEqDiff,reduceCtorEq,Nat.reduceAdd,Nat.reduceMul,Nat.reduceLeDiff,quietOp,blindOp,Int.reduceEq,Int.reduceLT,Int.reduceLE,Nat.reduceLT,tiA,tiXA, f0, f1, f2, g0, g1, hone, npp, npp2]
        have d3 := d1.putRow 1 rfl (cs' := [.int .i64 q, .int .i64 g, u])
        exact ⟨q, g, u, ll, rfl, by omega, by omega, ⟨by have := hll.1; omega, hll.2⟩, Dq.left (L := []) d3, hsl, ws, fun H2 h2 => hv H2 fun i r hl hi hr => h2 i r hl hi (d3.old hsc i r hi hr)⟩
def WithG (H : AH) (p : (Int × Int) × Value) (H' : AH) : Prop :=
  ∃ ll : List (List Int), (0 ≤ p.1.1 ∧ p.1.1 ≤ 27) ∧ (-2 ≤ p.1.2 ∧ p.1.2 ≤ 25) ∧ (ll.length ≤ 7 ∧ ∀ r ∈ ll, r.length ≤ 1000) ∧ Sld 1 p.2 ll.length ∧ (∃ ws, ∀ H2, (∀ i r, H.next ≤ i → H'.row i = some r → H2.row i = some r) → Rc p.2 ws ll H2) ∧ Ow H H' []
theorem ACalls.ex5 {P : Program} {f : FuncId} {args : List Value} {H : AH} {α β γ δ ε : Type} {g : α → β → γ → δ → ε → Value} {X : α → β → γ → δ → ε → AH → Prop} {R : Value → AH → Prop} (h : ACalls P f args H (fun v H' => ∃ a b c d e, v = g a b c d e ∧ X a b c d e H')) (k : ∀ a b c d e H', X a b c d e H' → R (g a b c d e) H') : ACalls P f args H R :=
  h.mono fun v H' hh => by obtain ⟨a, b, c, d, e, rfl, hx⟩ := hh; exact k _ _ _ _ _ _ hx
theorem l08Draw_c (cv : Value) (nb : Nat) (H : AH) (hnb : nb ≤ 4611686018427387904) (hc0 : CodeOk H cv nb) :
    ACalls Tryz.prog 25 [cv] H (fun r H' => ∃ p : (Int × Int) × Value, r = .agg #[.int .i64 p.1.1, .int .i64 p.1.2, p.2] ∧ WithG H p H') := by
  refine ACalls.wf (by kernel_rfl) fun hsc0 => acalls_of_awp [.cell 2 26] Tryz.func25 (by kernel_rfl) rfl rfl (Nat.le_of_ble_eq_true rfl) (by kernel_rfl) ?_
  have o1 := (Ow.refl hsc0).push ⟨26, true, [.int .i64 0, .int .i64 0, .slice none 0 0]⟩
  have hone := hc0.one
  have b0 := (o1.rowAt 0 rfl)
  try simp (disch := first | omega | (simp only [L3] <;> omega)) only [Sall,evalOp,init,binA_s,binE,binI,unE,convE,okNil,builtE,gv,TD.isAgg,resV,↓reduceIte,Nat.reduceEqDiff,reduceCtorEq,Nat.reduceAdd,Nat.reduceMul,Nat.reduceLeDiff,quietOp,blindOp,Int.reduceEq,Int.reduceLT,Int.reduceLE,Nat.reduceLT,tiA,tiXA, hone]
  generalize H.push ⟨26, true, [.int .i64 0, .int .i64 0, .slice none 0 0]⟩ = H1 at o1 b0 ⊢
  have hc1 : CodeOk H1 cv nb := codeUp hc0 (o1.old hsc0)
  refine (l01From_c cv nb H1 hnb hc1).fin ?_
  rintro H2 ⟨up2, hsc, hsi, hs⟩
  have hc := CodeX.of hc1 o1.sc up2
  refine Holds.mp ?_
  try simp (disch := first | omega | (simp only [L3] <;> omega)) only [Sall,evalOp,init,binA_s,binE,binI,unE,convE,okNil,builtE,gv,TD.isAgg,resV,↓reduceIte,Nat.reduceEqDiff,reduceCtorEq,Nat.reduceAdd,Nat.reduceMul,Nat.reduceLeDiff,quietOp,blindOp,Int.reduceEq,Int.reduceLT,Int.reduceLE,Nat.reduceLT,tiA,tiXA, true_and]
  refine ACalls.ex5 (g := fun (q g : Int) (u : Value) (_ : List Value) (_ : List (List Int)) => .agg #[.int .i64 q, .int .i64 g, u]) (l08DrawOf_c cv nb H1.next H2 hnb hs hc) ?_
  rintro q g u ws ll H3 ⟨hq, hg, hll, hsl, d1⟩
  have hv := d1.seesX hsi 0 rfl
  have hu := (hv H3 fun _ _ _ _ h => h).rg.one
  refine Holds.mp ?_
  try simp (disch := first | omega | (simp only [L3] <;> omega)) only [Sall,evalOp,init,binA_s,binE,binI,unE,convE,okNil,builtE,gv,TD.isAgg,resV,↓reduceIte,Nat.reduceEqDiff,reduceCtorEq,Nat.reduceAdd,Nat.reduceMul,Nat.reduceLeDiff,quietOp,blindOp,Int.reduceEq,Int.reduceLT,Int.reduceLE,Nat.reduceLT,tiA,tiXA, hu]
  refine ACalls.ex4 (g := fun (q g : Int) (u : Value) (_ : List (List Int)) => .agg #[.int .i64 q, .int .i64 g, u]) (l08Bad_c cv nb H1.next H2.next q g u ws ll H3 hq hg hll hsl d1.le hv hnb (d1.src hsi) (d1.code hc hsc)) ?_
  rintro q' g' u' ll' H4 ⟨hq', hg', hll', d2, hsl', ws', hr⟩
  have d3 := d1.bind hsi d2
  have hu' := (hr H4 fun _ _ _ _ h => h).rg.one
  have g0 : H4.row H.next = some ⟨26, true, [.int .i64 0, .int .i64 0, .slice none 0 0]⟩ := by
    rw [d3.lowEq (by omega) (by omega), up2.row _ (by omega)]; exact b0.1
  refine Holds.mp ?_
  try simp (disch := first | omega | (simp only [L3] <;> omega)) only [Sall,evalOp,init,binA_s,binE,binI,unE,convE,okNil,builtE,gv,TD.isAgg,resV,↓reduceIte,Nat.reduceEqDiff,reduceCtorEq,Nat.reduceAdd,Nat.reduceMul,Nat.reduceLeDiff,quietOp,blindOp,Int.reduceEq,Int.reduceLT,Int.reduceLE,Nat.reduceLT,tiA,tiXA, hu', g0]
  have hle := d3.le
  refine ⟨((q', g'), u'), rfl, ll', hq', hg', hll', hsl', ⟨ws', fun Hx hx => hr Hx fun i r hl hi hr => hx i r (by omega) ?_⟩, Ow.of_up ⟨by show H.next ≤ H4.next; omega, fun i hi => ?_⟩ (d3.sc.set _ _)⟩
  · rw [AH.setCells_row, if_neg (by omega)]; exact hr
  · rw [AH.setCells_row, if_neg (by omega), d3.lowEq (by omega) (by omega), up2.row _ (by omega), o1.low _ hi]
end Go.Proofs.YtollphjompimjaaGreat.A
end

section
set_option maxRecDepth 100000
set_option maxHeartbeats 2000000
namespace Go.Proofs.YtollphjompimjaaGreat.A
open Go Go.Abs Go.RowKit
theorem RowsC.take {vs : List Value} {ll : List (List Int)} {H : AH} (h : RowsC vs ll H) (k : Nat) : RowsC (vs.take k) (ll.take k) H := by
  refine ⟨by rw [List.length_take, List.length_take, h.1], fun j hj => ?_⟩
  rw [List.length_take] at hj
  obtain ⟨x, hx, hr⟩ := h.2 j (by omega)
  have e : (ll.take k).getD j [] = ll.getD j [] := by
    rw [List.getD_eq_getElem?_getD, List.getElem?_take, if_pos (by omega), ← List.getD_eq_getElem?_getD]
  refine ⟨x, by rw [List.getElem?_take, if_pos (by omega)]; exact hx, ?_⟩
  rw [e]
  exact hr
theorem Rc_cut {u : Value} {ws : List Value} {ll : List (List Int)} {H : AH} (hr : Rc u ws ll H) (hs : Sld 1 u ll.length) {k : Nat} (hk : k ≤ ll.length) {hi : Option Int} (hb : hi.getD (ll.length : Int) = (k : Int)) :
    ∃ w, (∀ (P : Program) (E : TI) (K : Value → AH → Prop) (H' : AH), E.size = 1 → K w H' → runOut P H' (sliceE E u none hi none H') K) ∧ (∀ H2, Rc u ws ll H2 → Rc w (ws.take k) (ll.take k) H2) ∧ Sld 1 w k := by
  have hwl : ws.length = ll.length := hr.1.1
  have htl : (ws.take k).length = k := by rw [List.length_take]; omega
  have key : ∀ (i o : Nat) (s : Option Nat) (c c' : Nat) (H2 : AH), Rc (.slice (some ⟨i, o, s⟩) ll.length c) ws ll H2 → Rc (.slice (some ⟨i, o, s⟩) k c') (ws.take k) (ll.take k) H2 := by
    intro i o s c c' H2 h2
    refine ⟨RowsC.take h2.1 k, .inr ?_⟩
    rcases h2.2 with ⟨e, _⟩ | ⟨i', o', s', c2, r, e, h3, h4, h5⟩
    · cases e
    · simp only [Value.slice.injEq, Option.some.injEq, Addr.mk.injEq] at e
      obtain ⟨⟨rfl, rfl, rfl⟩, _, rfl⟩ := e
      refine ⟨i, o, s, c', r, by rw [htl], h3, by rw [htl]; omega, ?_⟩
      rw [htl, ← h5]
      unfold seg
      rw [List.take_take, Nat.min_eq_left (by omega)]
  rcases hs with rfl | ⟨i, o, c, rfl⟩ | ⟨i, o, c, rfl, hc⟩
  · have h0 : ll.length = 0 := by
      rcases hr.2 with ⟨_, e⟩ | ⟨_, _, _, _, _, e, _⟩
      · rw [← hwl, e]; rfl
      · cases e
    have hl0 : ll = [] := List.eq_nil_of_length_eq_zero h0
    obtain rfl : k = 0 := by omega
    refine ⟨.slice none 0 0, fun P E K H' hE hK => ?_, fun H2 h2 => ⟨RowsC.take h2.1 0, .inl ⟨rfl, rfl⟩⟩, .inl rfl⟩
    unfold sliceE
    rw [if_neg (by simp)]
    simp only [asSl_nil, runOut_need, runOut_val]
    refine ⟨⟨rfl, ?_, rfl⟩, hK⟩
    cases hi with
    | none => rfl
    | some x => simpa using hb
  · refine ⟨.slice (some ⟨i, o, some 1⟩) k k, fun P E K H' hE hK => ?_, fun H2 h2 => key i o (some 1) c k H2 h2, .inr (.inl ⟨i, o, k, rfl⟩)⟩
    unfold sliceE
    rw [if_neg (by simp)]
    have e0 : ((none : Option Int).getD 0) = 0 := rfl
    simp only [asSl_some, runOut_need, runOut_val, hb, e0, Int.toNat_natCast, hE, Int.toNat_zero, Nat.zero_mul, Nat.add_zero, Nat.sub_zero]
    exact ⟨⟨by omega, by omega, by omega, trivial⟩, hK⟩
  · refine ⟨.slice (some ⟨i, o, none⟩) k c, fun P E K H' hE hK => ?_, fun H2 h2 => key i o none c c H2 h2, .inr (.inr ⟨i, o, c, rfl, by omega⟩)⟩
    unfold sliceE
    rw [if_neg (by simp)]
    have e0 : ((none : Option Int).getD 0) = 0 := rfl
    have e1 : ((none : Option Int).getD (c : Int)) = (c : Int) := rfl
    have e2 : (if (c : Int) = 0 then o else o) = o := by split <;> rfl
    simp only [asSl_some, runOut_need, runOut_val, hb, e0, e1, Int.toNat_natCast, hE, Int.toNat_zero, Nat.zero_mul, Nat.add_zero, Nat.sub_zero, e2]
    exact ⟨⟨by omega, by omega, by omega, by omega⟩, hK⟩
theorem drawGridOf_c (cv : Value) (nb : Nat) (H : AH) (hnb : nb ≤ 4611686018427387904) (hc0 : CodeOk H cv nb) :
    ACalls Tryz.prog 20 [cv] H (fun r H' => ∃ k : Int, r = .int .i64 k ∧ (-4611686018427387904 ≤ k ∧ k ≤ 1099511627776) ∧ Ow H H' []) := by
  refine ACalls.wf (by kernel_rfl) fun hsc0 => acalls_of_awp [.tmp 2] Tryz.func20 (by kernel_rfl) rfl rfl (Nat.le_of_ble_eq_true rfl) (by kernel_rfl) ?_
  have hone := hc0.one
  simp (config := {maxSteps := 3000000}) (disch := first | omega | (simp only [L3] <;> omega)) only [Sall,evalOp,init,binA_s,binE,binI,unE,convE,okNil,builtE,gv,TD.isAgg,resV,↓reduceIte,Nat.reduceEqDiff,reduceCtorEq,Nat.reduceAdd,Nat.reduceMul,Nat.reduceLeDiff,quietOp,blindOp,Int.reduceEq,Int.reduceLT,Int.reduceLE,Nat.reduceLT,tiA,tiXA, hone]
  refine (l01From_c cv nb H hnb hc0).fin ?_
  rintro H1 ⟨up1, sc1, n1, s1⟩
  have hc := CodeX.of hc0 hsc0 up1
  have d0 := Dq.start s1 sc1
  refine Holds.mp ?_
  simp (config := {maxSteps := 3000000}) (disch := first | omega | (simp only [L3] <;> omega)) only [Sall,evalOp,init,binA_s,binE,binI,unE,convE,okNil,builtE,gv,TD.isAgg,resV,↓reduceIte,Nat.reduceEqDiff,reduceCtorEq,Nat.reduceAdd,Nat.reduceMul,Nat.reduceLeDiff,quietOp,blindOp,Int.reduceEq,Int.reduceLT,Int.reduceLE,Nat.reduceLT,tiA,tiXA, true_and]
  refine (l01Near_c cv nb H.next 5 H1 (by omega) hnb (d0.src n1) (d0.code hc sc1) sc1).ex ?_
  rintro a H2 ⟨a1, a2, B2, b2, o2⟩
  have d1 := d0.call n1 b2 o2
  have zz : zeros 6 [.int .i64 0] = [.int .i64 0, .int .i64 0, .int .i64 0, .int .i64 0, .int .i64 0, .int .i64 0] := rfl
  refine Holds.mp ?_
  simp (config := {maxSteps := 3000000}) (disch := first | omega | (simp only [L3] <;> omega)) only [Sall,evalOp,init,binA_s,binE,binI,unE,convE,okNil,builtE,gv,TD.isAgg,resV,↓reduceIte,Nat.reduceEqDiff,reduceCtorEq,Nat.reduceAdd,Nat.reduceMul,Nat.reduceLeDiff,quietOp,blindOp,Int.reduceEq,Int.reduceLT,Int.reduceLE,Nat.reduceLT,tiA,tiXA, zz]
  refine (pickL [2, 3, 5, 4, 7, a] 6 rfl (by omega) (by omega) d1 n1 hc sc1 hnb).ex ?_
  rintro x H3 ⟨hx, d2⟩
  have hx2 : -4611686018427387904 ≤ x ∧ x ≤ 1099511627776 := by
    simp only [List.mem_cons, List.not_mem_nil, or_false] at hx
    omega
  refine Holds.mp ?_
  try simp (disch := first | omega | (simp only [L3] <;> omega)) only [Sall,evalOp,init,binA_s,binE,binI,unE,convE,okNil,builtE,gv,TD.isAgg,resV,↓reduceIte,Nat.reduceEqDiff,reduceCtorEq,Nat.reduceAdd,Nat.reduceMul,Nat.reduceLeDiff,quietOp,blindOp,Int.reduceEq,Int.reduceLT,Int.reduceLE,Nat.reduceLT,tiA,tiXA, true_and]
  exact ⟨hx2, Dr.fin ⟨d2.ex⟩ up1⟩
theorem drawGolfBound_c (cv : Value) (nb : Nat) (H : AH) (hnb : nb ≤ 4611686018427387904) (hc0 : CodeOk H cv nb) :
    ACalls Tryz.prog 13 [cv] H (fun r H' => ∃ p : Int × Int, r = .tuple #[.int .i64 p.1, .int .i64 p.2] ∧ (-4611686018427387904 ≤ p.1 ∧ p.1 ≤ 1099511627776) ∧ Ow H H' []) := by
  refine ACalls.wf (by kernel_rfl) fun hsc0 => acalls_of_awp [.tmp 2, .tmp 3] Tryz.func13 (by kernel_rfl) rfl rfl (Nat.le_of_ble_eq_true rfl) (by kernel_rfl) ?_
  have hone := hc0.one
  have hb : ∀ (t : T) (H : AH), evalOp Tryz.prog t H (.buildSlice 28 2 #[(0, .const (.int .i64 30)), (1, .const (.int .i64 1000))]) = .need (2 ≤ 16777216 ∧ 2 * 1 ≤ 16777216) (.val (.slice (some ⟨H.next, 0, some 1⟩) 2 2) (H.push ⟨2, true, ints [30, 1000]⟩)) := fun t H => by kernel_rfl
  generalize (Op.buildSlice 28 2 #[(0, .const (.int .i64 30)), (1, .const (.int .i64 1000))]) = bop at hb ⊢
  simp (config := {maxSteps := 3000000}) (disch := first | omega | (simp only [L3] <;> omega)) only [Sall,evalOp,init,binA_s,binE,binI,unE,convE,okNil,builtE,gv,TD.isAgg,resV,↓reduceIte,Nat.reduceEqDiff,reduceCtorEq,Nat.reduceAdd,Nat.reduceMul,Nat.reduceLeDiff,quietOp,blindOp,Int.reduceEq,Int.reduceLT,Int.reduceLE,Nat.reduceLT,tiA,tiXA, ↓hb, hone]
  refine (l01From_c cv nb H hnb hc0).fin ?_
  rintro H1 ⟨up1, sc1, n1, s1⟩
  have hc := CodeX.of hc0 hsc0 up1
  have d0 := Dq.start s1 sc1
  refine Holds.mp ?_
  simp (config := {maxSteps := 3000000}) (disch := first | omega | (simp only [L3] <;> omega)) only [Sall,evalOp,init,binA_s,binE,binI,unE,convE,okNil,builtE,gv,TD.isAgg,resV,↓reduceIte,Nat.reduceEqDiff,reduceCtorEq,Nat.reduceAdd,Nat.reduceMul,Nat.reduceLeDiff,quietOp,blindOp,Int.reduceEq,Int.reduceLT,Int.reduceLE,Nat.reduceLT,tiA,tiXA, ↓hb]
  refine (pickL [30, 1000] 2 rfl (by omega) (by omega) d0 n1 hc sc1 hnb).ex ?_
  rintro x H2 ⟨hx, d1⟩
  have hx2 : 30 ≤ x ∧ x ≤ 1000 := by
    simp only [List.mem_cons, List.not_mem_nil, or_false] at hx
    omega
  refine Holds.mp ?_
  simp (config := {maxSteps := 3000000}) (disch := first | omega | (simp only [L3] <;> omega)) only [Sall,evalOp,init,binA_s,binE,binI,unE,convE,okNil,builtE,gv,TD.isAgg,resV,↓reduceIte,Nat.reduceEqDiff,reduceCtorEq,Nat.reduceAdd,Nat.reduceMul,Nat.reduceLeDiff,quietOp,blindOp,Int.reduceEq,Int.reduceLT,Int.reduceLE,Nat.reduceLT,tiA,tiXA, true_and]
  refine (l01Near_c cv nb H.next x H2 (by omega) hnb (d1.src n1) (d1.code hc sc1) d1.sc).ex ?_
  rintro a H3 ⟨a1, a2, B3, b3, o3⟩
  have d2 := d1.call n1 b3 o3
  refine Holds.mp ?_
  simp (config := {maxSteps := 3000000}) (disch := first | omega | (simp only [L3] <;> omega)) only [Sall,evalOp,init,binA_s,binE,binI,unE,convE,okNil,builtE,gv,TD.isAgg,resV,↓reduceIte,Nat.reduceEqDiff,reduceCtorEq,Nat.reduceAdd,Nat.reduceMul,Nat.reduceLeDiff,quietOp,blindOp,Int.reduceEq,Int.reduceLT,Int.reduceLE,Nat.reduceLT,tiA,tiXA, true_and]
  refine (l01Near_c cv nb H.next 30 H3 (by omega) hnb (d2.src n1) (d2.code hc sc1) d2.sc).ex ?_
  rintro y H4 ⟨y1, y2, B4, b4, o4⟩
  have d3 := d2.call n1 b4 o4
  have zz : zeros 5 [.int .i64 0] = [.int .i64 0, .int .i64 0, .int .i64 0, .int .i64 0, .int .i64 0] := rfl
  refine Holds.mp ?_
  simp (config := {maxSteps := 3000000}) (disch := first | omega | (simp only [L3] <;> omega)) only [Sall,evalOp,init,binA_s,binE,binI,unE,convE,okNil,builtE,gv,TD.isAgg,resV,↓reduceIte,Nat.reduceEqDiff,reduceCtorEq,Nat.reduceAdd,Nat.reduceMul,Nat.reduceLeDiff,quietOp,blindOp,Int.reduceEq,Int.reduceLT,Int.reduceLE,Nat.reduceLT,tiA,tiXA, zz]
  refine (pickL [2, 3, 4, 5, y] 5 rfl (by omega) (by omega) d3 n1 hc sc1 hnb).ex ?_
  rintro z H5 ⟨hz, d4⟩
  refine Holds.mp ?_
  try simp (disch := first | omega | (simp only [L3] <;> omega)) only [Sall,evalOp,init,binA_s,binE,binI,unE,convE,okNil,builtE,gv,TD.isAgg,resV,↓reduceIte,Nat.reduceEqDiff,reduceCtorEq,Nat.reduceAdd,Nat.reduceMul,Nat.reduceLeDiff,quietOp,blindOp,Int.reduceEq,Int.reduceLT,Int.reduceLE,Nat.reduceLT,tiA,tiXA, true_and]
  exact ⟨(a, z), rfl, ⟨a1, a2⟩, Ow.left (L := []) (Dr.fin ⟨d4.ex⟩ up1)⟩
end Go.Proofs.YtollphjompimjaaGreat.A
end

section
set_option maxRecDepth 100000
set_option maxHeartbeats 2000000
namespace Go.Proofs.YtollphjompimjaaGreat.A
open Go Go.Abs Go.RowKit
theorem pickE {cv : Value} {nb si : Nat} {H Hp : AH} {L : List Th} (ls : List Int) (m : Nat) (hm : ls.length = m) (hm0 : 0 < m) (hm1 : m ≤ 100) (d : Dq cv nb si H Hp L) (hsi : si < H.next) (hc : CodeX cv nb si H) (hsc : Sc H) (hnb : nb ≤ 4611686018427387904) :
    ACalls Tryz.prog 41 [.pointer (some ⟨si, 0, none⟩), .slice (some ⟨Hp.next, 0, some 1⟩) m m] (Hp.push ⟨2, true, ints ls⟩) (fun v H' => ∃ x : Int, v = .int .i64 x ∧ x ∈ ls ∧ LES (fun j => j ≠ si) (Hp.push ⟨2, true, ints ls⟩) H' ∧ Dq cv nb si H H' L) := by
  have d6 : Dq cv nb si H (Hp.push ⟨2, true, ints ls⟩) L := d.tmp _
  have d7 : Dq cv nb si H (Hp.push ⟨2, true, ints ls⟩) (L ++ [.sl 1 2 (.slice (some ⟨Hp.next, 0, some 1⟩) m m) m (ints ls)]) := d.map fun B o => o.pushSl (by rw [ints_length, hm, Nat.mul_one])
  refine (pickD (k := L.length) (ty := 2) (ls := ls) d7 hsi hc hsc hnb (by simp) ⟨hm0, hm1⟩).mono ?_
  rintro v H' ⟨x, h1, h2, h3⟩
  have d8 := d6.next hsi h3
  exact ⟨x, h1, h2, les_of h3 (Ow.refl d8.sc) d6.sc, d8⟩
theorem triples11 (t : T) (H : AH) (h : Nat) (e0 : t 10 = .slice (some ⟨h + 0, 0, some 1⟩) 3 3) (e1 : t 11 = .slice (some ⟨h + 1, 0, some 1⟩) 3 3) (e2 : t 12 = .slice (some ⟨h + 2, 0, some 1⟩) 3 3) (e3 : t 13 = .slice (some ⟨h + 3, 0, some 1⟩) 3 3) (e4 : t 14 = .slice (some ⟨h + 4, 0, some 1⟩) 3 3) (e5 : t 15 = .slice (some ⟨h + 5, 0, some 1⟩) 3 3) (e6 : t 16 = .slice (some ⟨h + 6, 0, some 1⟩) 3 3) (e7 : t 17 = .slice (some ⟨h + 7, 0, some 1⟩) 3 3) (e8 : t 18 = .slice (some ⟨h + 8, 0, some 1⟩) 3 3) (e9 : t 19 = .slice (some ⟨h + 9, 0, some 1⟩) 3 3) (e10 : t 20 = .slice (some ⟨h + 10, 0, some 1⟩) 3 3) :
    evalOp Tryz.prog t H (.buildSlice 24 11 #[(0, .tmp 10), (1, .tmp 11), (2, .tmp 12), (3, .tmp 13), (4, .tmp 14), (5, .tmp 15), (6, .tmp 16), (7, .tmp 17), (8, .tmp 18), (9, .tmp 19), (10, .tmp 20)]) = .need (11 ≤ 16777216 ∧ 11 * 1 ≤ 16777216) (.val (.slice (some ⟨H.next, 0, some 1⟩) 11 11) (H.push ⟨28, true, [.slice (some ⟨h + 0, 0, some 1⟩) 3 3, .slice (some ⟨h + 1, 0, some 1⟩) 3 3, .slice (some ⟨h + 2, 0, some 1⟩) 3 3, .slice (some ⟨h + 3, 0, some 1⟩) 3 3, .slice (some ⟨h + 4, 0, some 1⟩) 3 3, .slice (some ⟨h + 5, 0, some 1⟩) 3 3, .slice (some ⟨h + 6, 0, some 1⟩) 3 3, .slice (some ⟨h + 7, 0, some 1⟩) 3 3, .slice (some ⟨h + 8, 0, some 1⟩) 3 3, .slice (some ⟨h + 9, 0, some 1⟩) 3 3, .slice (some ⟨h + 10, 0, some 1⟩) 3 3]⟩)) := by
  have h1 : evalOp Tryz.prog (fun i => if i < 10 then undef else if i < 21 then .slice (some ⟨h + (i - 10), 0, some 1⟩) 3 3 else undef) H (.buildSlice 24 11 #[(0, .tmp 10), (1, .tmp 11), (2, .tmp 12), (3, .tmp 13), (4, .tmp 14), (5, .tmp 15), (6, .tmp 16), (7, .tmp 17), (8, .tmp 18), (9, .tmp 19), (10, .tmp 20)]) = .need (11 ≤ 16777216 ∧ 11 * 1 ≤ 16777216) (.val (.slice (some ⟨H.next, 0, some 1⟩) 11 11) (H.push ⟨28, true, [.slice (some ⟨h + 0, 0, some 1⟩) 3 3, .slice (some ⟨h + 1, 0, some 1⟩) 3 3, .slice (some ⟨h + 2, 0, some 1⟩) 3 3, .slice (some ⟨h + 3, 0, some 1⟩) 3 3, .slice (some ⟨h + 4, 0, some 1⟩) 3 3, .slice (some ⟨h + 5, 0, some 1⟩) 3 3, .slice (some ⟨h + 6, 0, some 1⟩) 3 3, .slice (some ⟨h + 7, 0, some 1⟩) 3 3, .slice (some ⟨h + 8, 0, some 1⟩) 3 3, .slice (some ⟨h + 9, 0, some 1⟩) 3 3, .slice (some ⟨h + 10, 0, some 1⟩) 3 3]⟩)) := by kernel_rfl
  have h2 : ∀ t : T, evp t [(0, .tmp 10), (1, .tmp 11), (2, .tmp 12), (3, .tmp 13), (4, .tmp 14), (5, .tmp 15), (6, .tmp 16), (7, .tmp 17), (8, .tmp 18), (9, .tmp 19), (10, .tmp 20)] = some [(0, t 10), (1, t 11), (2, t 12), (3, t 13), (4, t 14), (5, t 15), (6, t 16), (7, t 17), (8, t 18), (9, t 19), (10, t 20)] := fun t => rfl
  rw [← h1]
  simp only [evalOp, h2, e0, e1, e2, e3, e4, e5, e6, e7, e8, e9, e10]
  rfl
theorem drawFirstGolf_c (cv : Value) (nb : Nat) (H : AH) (hnb : nb ≤ 4611686018427387904) (hc0 : CodeOk H cv nb) :
    ACalls Tryz.prog 16 [cv] H (fun r H' => ∃ p : Int × (Int × Int), r = .tuple #[.int .i64 p.1, .int .i64 p.2.1, .int .i64 p.2.2] ∧ ((-1 ≤ p.1 ∧ p.1 ≤ 10) ∧ (-1 ≤ p.2.1 ∧ p.2.1 ≤ 10) ∧ (-1 ≤ p.2.2 ∧ p.2.2 ≤ 10)) ∧ Ow H H' []) := by
  refine ACalls.wf (by kernel_rfl) fun hsc0 => acalls_of_awp [.tmp 2, .tmp 3, .tmp 4] Tryz.func16 (by kernel_rfl) rfl rfl (Nat.le_of_ble_eq_true rfl) (by kernel_rfl) ?_
  have hone := hc0.one
  have hb0 : ∀ (t : T) (H : AH), evalOp Tryz.prog t H (.buildSlice 28 3 #[(0, .const (.int .i64 4)), (1, .const (.int .i64 2)), (2, .const (.int .i64 3))]) = .need (3 ≤ 16777216 ∧ 3 * 1 ≤ 16777216) (.val (.slice (some ⟨H.next, 0, some 1⟩) 3 3) (H.push ⟨2, true, ints [4, 2, 3]⟩)) := fun t H => by kernel_rfl
  generalize (Op.buildSlice 28 3 #[(0, .const (.int .i64 4)), (1, .const (.int .i64 2)), (2, .const (.int .i64 3))]) = b0 at hb0 ⊢
  have hb1 : ∀ (t : T) (H : AH), evalOp Tryz.prog t H (.buildSlice 28 3 #[(0, .const (.int .i64 6)), (1, .const (.int .i64 2)), (2, .const (.int .i64 3))]) = .need (3 ≤ 16777216 ∧ 3 * 1 ≤ 16777216) (.val (.slice (some ⟨H.next, 0, some 1⟩) 3 3) (H.push ⟨2, true, ints [6, 2, 3]⟩)) := fun t H => by kernel_rfl
  generalize (Op.buildSlice 28 3 #[(0, .const (.int .i64 6)), (1, .const (.int .i64 2)), (2, .const (.int .i64 3))]) = b1 at hb1 ⊢
  have hb2 : ∀ (t : T) (H : AH), evalOp Tryz.prog t H (.buildSlice 28 3 #[(0, .const (.int .i64 6)), (1, .const (.int .i64 2)), (2, .const (.int .i64 5))]) = .need (3 ≤ 16777216 ∧ 3 * 1 ≤ 16777216) (.val (.slice (some ⟨H.next, 0, some 1⟩) 3 3) (H.push ⟨2, true, ints [6, 2, 5]⟩)) := fun t H => by kernel_rfl
  generalize (Op.buildSlice 28 3 #[(0, .const (.int .i64 6)), (1, .const (.int .i64 2)), (2, .const (.int .i64 5))]) = b2 at hb2 ⊢
  have hb3 : ∀ (t : T) (H : AH), evalOp Tryz.prog t H (.buildSlice 28 3 #[(0, .const (.int .i64 6)), (1, .const (.int .i64 3)), (2, .const (.int .i64 1))]) = .need (3 ≤ 16777216 ∧ 3 * 1 ≤ 16777216) (.val (.slice (some ⟨H.next, 0, some 1⟩) 3 3) (H.push ⟨2, true, ints [6, 3, 1]⟩)) := fun t H => by kernel_rfl
  generalize (Op.buildSlice 28 3 #[(0, .const (.int .i64 6)), (1, .const (.int .i64 3)), (2, .const (.int .i64 1))]) = b3 at hb3 ⊢
  have hb4 : ∀ (t : T) (H : AH), evalOp Tryz.prog t H (.buildSlice 28 3 #[(0, .const (.int .i64 6)), (1, .const (.int .i64 3)), (2, .const (.int .i64 2))]) = .need (3 ≤ 16777216 ∧ 3 * 1 ≤ 16777216) (.val (.slice (some ⟨H.next, 0, some 1⟩) 3 3) (H.push ⟨2, true, ints [6, 3, 2]⟩)) := fun t H => by kernel_rfl
  generalize (Op.buildSlice 28 3 #[(0, .const (.int .i64 6)), (1, .const (.int .i64 3)), (2, .const (.int .i64 2))]) = b4 at hb4 ⊢
  have hb5 : ∀ (t : T) (H : AH), evalOp Tryz.prog t H (.buildSlice 28 3 #[(0, .const (.int .i64 8)), (1, .const (.int .i64 2)), (2, .const (.int .i64 3))]) = .need (3 ≤ 16777216 ∧ 3 * 1 ≤ 16777216) (.val (.slice (some ⟨H.next, 0, some 1⟩) 3 3) (H.push ⟨2, true, ints [8, 2, 3]⟩)) := fun t H => by kernel_rfl
  generalize (Op.buildSlice 28 3 #[(0, .const (.int .i64 8)), (1, .const (.int .i64 2)), (2, .const (.int .i64 3))]) = b5 at hb5 ⊢
  have hb6 : ∀ (t : T) (H : AH), evalOp Tryz.prog t H (.buildSlice 28 3 #[(0, .const (.int .i64 8)), (1, .const (.int .i64 4)), (2, .const (.int .i64 2))]) = .need (3 ≤ 16777216 ∧ 3 * 1 ≤ 16777216) (.val (.slice (some ⟨H.next, 0, some 1⟩) 3 3) (H.push ⟨2, true, ints [8, 4, 2]⟩)) := fun t H => by kernel_rfl
  generalize (Op.buildSlice 28 3 #[(0, .const (.int .i64 8)), (1, .const (.int .i64 4)), (2, .const (.int .i64 2))]) = b6 at hb6 ⊢
  have hb7 : ∀ (t : T) (H : AH), evalOp Tryz.prog t H (.buildSlice 28 3 #[(0, .const (.int .i64 9)), (1, .const (.int .i64 3)), (2, .const (.int .i64 4))]) = .need (3 ≤ 16777216 ∧ 3 * 1 ≤ 16777216) (.val (.slice (some ⟨H.next, 0, some 1⟩) 3 3) (H.push ⟨2, true, ints [9, 3, 4]⟩)) := fun t H => by kernel_rfl
  generalize (Op.buildSlice 28 3 #[(0, .const (.int .i64 9)), (1, .const (.int .i64 3)), (2, .const (.int .i64 4))]) = b7 at hb7 ⊢
  have hb8 : ∀ (t : T) (H : AH), evalOp Tryz.prog t H (.buildSlice 28 3 #[(0, .const (.int .i64 9)), (1, .const (.int .i64 3)), (2, .const (.int .i64 3))]) = .need (3 ≤ 16777216 ∧ 3 * 1 ≤ 16777216) (.val (.slice (some ⟨H.next, 0, some 1⟩) 3 3) (H.push ⟨2, true, ints [9, 3, 3]⟩)) := fun t H => by kernel_rfl
  generalize (Op.buildSlice 28 3 #[(0, .const (.int .i64 9)), (1, .const (.int .i64 3)), (2, .const (.int .i64 3))]) = b8 at hb8 ⊢
  have hb9 : ∀ (t : T) (H : AH), evalOp Tryz.prog t H (.buildSlice 28 3 #[(0, .const (.int .i64 4)), (1, .const (.int .i64 2)), (2, .const (.int .i64 4))]) = .need (3 ≤ 16777216 ∧ 3 * 1 ≤ 16777216) (.val (.slice (some ⟨H.next, 0, some 1⟩) 3 3) (H.push ⟨2, true, ints [4, 2, 4]⟩)) := fun t H => by kernel_rfl
  generalize (Op.buildSlice 28 3 #[(0, .const (.int .i64 4)), (1, .const (.int .i64 2)), (2, .const (.int .i64 4))]) = b9 at hb9 ⊢
  have hb10 : ∀ (t : T) (H : AH), evalOp Tryz.prog t H (.buildSlice 28 3 #[(0, .const (.int .i64 9)), (1, .const (.int .i64 3)), (2, .const (.int .i64 5))]) = .need (3 ≤ 16777216 ∧ 3 * 1 ≤ 16777216) (.val (.slice (some ⟨H.next, 0, some 1⟩) 3 3) (H.push ⟨2, true, ints [9, 3, 5]⟩)) := fun t H => by kernel_rfl
  generalize (Op.buildSlice 28 3 #[(0, .const (.int .i64 9)), (1, .const (.int .i64 3)), (2, .const (.int .i64 5))]) = b10 at hb10 ⊢
  obtain ⟨xx, hxx⟩ : ∃ xx : T → AH → Out, ∀ t H, evalOp Tryz.prog t H (.buildSlice 24 11 #[(0, .tmp 10), (1, .tmp 11), (2, .tmp 12), (3, .tmp 13), (4, .tmp 14), (5, .tmp 15), (6, .tmp 16), (7, .tmp 17), (8, .tmp 18), (9, .tmp 19), (10, .tmp 20)]) = xx t H := ⟨fun t H => _, fun _ _ => rfl⟩
  generalize eb11 : (Op.buildSlice 24 11 #[(0, .tmp 10), (1, .tmp 11), (2, .tmp 12), (3, .tmp 13), (4, .tmp 14), (5, .tmp 15), (6, .tmp 16), (7, .tmp 17), (8, .tmp 18), (9, .tmp 19), (10, .tmp 20)]) = b11 at hxx ⊢
  simp (config := {maxSteps := 3000000}) (disch := first | omega | (simp only [L3] <;> omega)) only [Sall,evalOp,init,binA_s,binE,binI,unE,convE,okNil,builtE,gv,TD.isAgg,resV,↓reduceIte,Nat.reduceEqDiff,reduceCtorEq,Nat.reduceAdd,Nat.reduceMul,Nat.reduceLeDiff,quietOp,blindOp,Int.reduceEq,Int.reduceLT,Int.reduceLE,Nat.reduceLT,tiA,tiXA, hone, ↓hb0, ↓hb1, ↓hb2, ↓hb3, ↓hb4, ↓hb5, ↓hb6, ↓hb7, ↓hb8, ↓hb9, ↓hb10, ↓hxx]
  refine (l01From_c cv nb H hnb hc0).fin ?_
  rintro H1 ⟨up1, hsc, hsi, s1⟩
  have hc := CodeX.of hc0 hsc0 up1
  have d2 := Dq.start s1 hsc
  refine Holds.mp ?_
  simp (config := {maxSteps := 3000000}) (disch := first | omega | (simp only [L3] <;> omega)) only [Sall,evalOp,init,binA_s,binE,binI,unE,convE,okNil,builtE,gv,TD.isAgg,resV,↓reduceIte,Nat.reduceEqDiff,reduceCtorEq,Nat.reduceAdd,Nat.reduceMul,Nat.reduceLeDiff,quietOp,blindOp,Int.reduceEq,Int.reduceLT,Int.reduceLE,Nat.reduceLT,tiA,tiXA, ↓hb0, ↓hb1, ↓hb2, ↓hb3, ↓hb4, ↓hb5, ↓hb6, ↓hb7, ↓hb8, ↓hb9, ↓hb10, ↓hxx]
  rw [← hxx, ← eb11]
  rw [triples11 _ _ H1.next]
  rotate_left
  iterate 11 rfl
  rw [runOut_need, runOut_val]
  refine ⟨by decide, ?_⟩
  obtain ⟨h, eh⟩ : ∃ h, h = H1.next := ⟨_, rfl⟩
  have d3 : Dq cv nb H.next H1 ((((((((((((H1.push ⟨2, true, ints [4, 2, 3]⟩).push ⟨2, true, ints [6, 2, 3]⟩).push ⟨2, true, ints [6, 2, 5]⟩).push ⟨2, true, ints [6, 3, 1]⟩).push ⟨2, true, ints [6, 3, 2]⟩).push ⟨2, true, ints [8, 2, 3]⟩).push ⟨2, true, ints [8, 4, 2]⟩).push ⟨2, true, ints [9, 3, 4]⟩).push ⟨2, true, ints [9, 3, 3]⟩).push ⟨2, true, ints [4, 2, 4]⟩).push ⟨2, true, ints [9, 3, 5]⟩).push ⟨28, true, [.slice (some ⟨H1.next + 0, 0, some 1⟩) 3 3, .slice (some ⟨H1.next + 1, 0, some 1⟩) 3 3, .slice (some ⟨H1.next + 2, 0, some 1⟩) 3 3, .slice (some ⟨H1.next + 3, 0, some 1⟩) 3 3, .slice (some ⟨H1.next + 4, 0, some 1⟩) 3 3, .slice (some ⟨H1.next + 5, 0, some 1⟩) 3 3, .slice (some ⟨H1.next + 6, 0, some 1⟩) 3 3, .slice (some ⟨H1.next + 7, 0, some 1⟩) 3 3, .slice (some ⟨H1.next + 8, 0, some 1⟩) 3 3, .slice (some ⟨H1.next + 9, 0, some 1⟩) 3 3, .slice (some ⟨H1.next + 10, 0, some 1⟩) 3 3]⟩) [.row (h + 0) ⟨2, true, ints [4, 2, 3]⟩, .row (h + 1) ⟨2, true, ints [6, 2, 3]⟩, .row (h + 2) ⟨2, true, ints [6, 2, 5]⟩, .row (h + 3) ⟨2, true, ints [6, 3, 1]⟩, .row (h + 4) ⟨2, true, ints [6, 3, 2]⟩, .row (h + 5) ⟨2, true, ints [8, 2, 3]⟩, .row (h + 6) ⟨2, true, ints [8, 4, 2]⟩, .row (h + 7) ⟨2, true, ints [9, 3, 4]⟩, .row (h + 8) ⟨2, true, ints [9, 3, 3]⟩, .row (h + 9) ⟨2, true, ints [4, 2, 4]⟩, .row (h + 10) ⟨2, true, ints [9, 3, 5]⟩, .row (h + 11) ⟨28, true, [.slice (some ⟨h + 0, 0, some 1⟩) 3 3, .slice (some ⟨h + 1, 0, some 1⟩) 3 3, .slice (some ⟨h + 2, 0, some 1⟩) 3 3, .slice (some ⟨h + 3, 0, some 1⟩) 3 3, .slice (some ⟨h + 4, 0, some 1⟩) 3 3, .slice (some ⟨h + 5, 0, some 1⟩) 3 3, .slice (some ⟨h + 6, 0, some 1⟩) 3 3, .slice (some ⟨h + 7, 0, some 1⟩) 3 3, .slice (some ⟨h + 8, 0, some 1⟩) 3 3, .slice (some ⟨h + 9, 0, some 1⟩) 3 3, .slice (some ⟨h + 10, 0, some 1⟩) 3 3]⟩] := by
    rw [eh]
    exact (((((((((((d2.push ⟨2, true, ints [4, 2, 3]⟩).push ⟨2, true, ints [6, 2, 3]⟩).push ⟨2, true, ints [6, 2, 5]⟩).push ⟨2, true, ints [6, 3, 1]⟩).push ⟨2, true, ints [6, 3, 2]⟩).push ⟨2, true, ints [8, 2, 3]⟩).push ⟨2, true, ints [8, 4, 2]⟩).push ⟨2, true, ints [9, 3, 4]⟩).push ⟨2, true, ints [9, 3, 3]⟩).push ⟨2, true, ints [4, 2, 4]⟩).push ⟨2, true, ints [9, 3, 5]⟩).push ⟨28, true, [.slice (some ⟨H1.next + 0, 0, some 1⟩) 3 3, .slice (some ⟨H1.next + 1, 0, some 1⟩) 3 3, .slice (some ⟨H1.next + 2, 0, some 1⟩) 3 3, .slice (some ⟨H1.next + 3, 0, some 1⟩) 3 3, .slice (some ⟨H1.next + 4, 0, some 1⟩) 3 3, .slice (some ⟨H1.next + 5, 0, some 1⟩) 3 3, .slice (some ⟨H1.next + 6, 0, some 1⟩) 3 3, .slice (some ⟨H1.next + 7, 0, some 1⟩) 3 3, .slice (some ⟨H1.next + 8, 0, some 1⟩) 3 3, .slice (some ⟨H1.next + 9, 0, some 1⟩) 3 3, .slice (some ⟨H1.next + 10, 0, some 1⟩) 3 3]⟩
  have ez : (((((((((((H1.push ⟨2, true, ints [4, 2, 3]⟩).push ⟨2, true, ints [6, 2, 3]⟩).push ⟨2, true, ints [6, 2, 5]⟩).push ⟨2, true, ints [6, 3, 1]⟩).push ⟨2, true, ints [6, 3, 2]⟩).push ⟨2, true, ints [8, 2, 3]⟩).push ⟨2, true, ints [8, 4, 2]⟩).push ⟨2, true, ints [9, 3, 4]⟩).push ⟨2, true, ints [9, 3, 3]⟩).push ⟨2, true, ints [4, 2, 4]⟩).push ⟨2, true, ints [9, 3, 5]⟩).next = h + 11 := by rw [eh]; rfl
  rw [ez]
  have hsh : H.next < h := by omega
  rw [← eh] at d3 ⊢
  generalize ((((((((((((H1.push ⟨2, true, ints [4, 2, 3]⟩).push ⟨2, true, ints [6, 2, 3]⟩).push ⟨2, true, ints [6, 2, 5]⟩).push ⟨2, true, ints [6, 3, 1]⟩).push ⟨2, true, ints [6, 3, 2]⟩).push ⟨2, true, ints [8, 2, 3]⟩).push ⟨2, true, ints [8, 4, 2]⟩).push ⟨2, true, ints [9, 3, 4]⟩).push ⟨2, true, ints [9, 3, 3]⟩).push ⟨2, true, ints [4, 2, 4]⟩).push ⟨2, true, ints [9, 3, 5]⟩).push ⟨28, true, [.slice (some ⟨h + 0, 0, some 1⟩) 3 3, .slice (some ⟨h + 1, 0, some 1⟩) 3 3, .slice (some ⟨h + 2, 0, some 1⟩) 3 3, .slice (some ⟨h + 3, 0, some 1⟩) 3 3, .slice (some ⟨h + 4, 0, some 1⟩) 3 3, .slice (some ⟨h + 5, 0, some 1⟩) 3 3, .slice (some ⟨h + 6, 0, some 1⟩) 3 3, .slice (some ⟨h + 7, 0, some 1⟩) 3 3, .slice (some ⟨h + 8, 0, some 1⟩) 3 3, .slice (some ⟨h + 9, 0, some 1⟩) 3 3, .slice (some ⟨h + 10, 0, some 1⟩) 3 3]⟩) = H4 at d3 ⊢
  clear ez
  simp (config := {maxSteps := 3000000}) (disch := first | omega | (simp only [L3] <;> omega)) only [Sall,evalOp,init,binA_s,binE,binI,unE,convE,okNil,builtE,gv,TD.isAgg,resV,↓reduceIte,Nat.reduceEqDiff,reduceCtorEq,Nat.reduceAdd,Nat.reduceMul,Nat.reduceLeDiff,quietOp,blindOp,Int.reduceEq,Int.reduceLT,Int.reduceLE,Nat.reduceLT,tiA,tiXA, ↓hb0, ↓hb1, ↓hb2, ↓hb3, ↓hb4, ↓hb5, ↓hb6, ↓hb7, ↓hb8, ↓hb9, ↓hb10, ↓hxx]
  refine (nextD 11 d3 hsi hc hsc hnb (by omega)).ex ?_
  rintro z H5 ⟨hz, d4⟩
  have hzc : z = 0 ∨ z = 1 ∨ z = 2 ∨ z = 3 ∨ z = 4 ∨ z = 5 ∨ z = 6 ∨ z = 7 ∨ z = 8 ∨ z = 9 ∨ z = 10 := by omega
  have gz := d4.rowAt 11 rfl
  have pick : ∃ (a b c : Nat), ([.slice (some ⟨h + 0, 0, some 1⟩) 3 3, .slice (some ⟨h + 1, 0, some 1⟩) 3 3, .slice (some ⟨h + 2, 0, some 1⟩) 3 3, .slice (some ⟨h + 3, 0, some 1⟩) 3 3, .slice (some ⟨h + 4, 0, some 1⟩) 3 3, .slice (some ⟨h + 5, 0, some 1⟩) 3 3, .slice (some ⟨h + 6, 0, some 1⟩) 3 3, .slice (some ⟨h + 7, 0, some 1⟩) 3 3, .slice (some ⟨h + 8, 0, some 1⟩) 3 3, .slice (some ⟨h + 9, 0, some 1⟩) 3 3, .slice (some ⟨h + 10, 0, some 1⟩) 3 3] : List Value)[z]? = some (.slice (some ⟨h + z, 0, some 1⟩) 3 3) ∧ Dq cv nb H.next H1 H5 [.row (h + z) ⟨2, true, ints [(a : Int), (b : Int), (c : Int)]⟩] ∧ (4 ≤ a ∧ a ≤ 9) ∧ (2 ≤ b ∧ b ≤ 4) ∧ (1 ≤ c ∧ c ≤ 5) := by
    rcases hzc with rfl | rfl | rfl | rfl | rfl | rfl | rfl | rfl | rfl | rfl | rfl
    · exact ⟨4, 2, 3, rfl, d4.map fun B o => o.only 0 rfl, by omega, by omega, by omega⟩
    · exact ⟨6, 2, 3, rfl, d4.map fun B o => o.only 1 rfl, by omega, by omega, by omega⟩
    · exact ⟨6, 2, 5, rfl, d4.map fun B o => o.only 2 rfl, by omega, by omega, by omega⟩
    · exact ⟨6, 3, 1, rfl, d4.map fun B o => o.only 3 rfl, by omega, by omega, by omega⟩
    · exact ⟨6, 3, 2, rfl, d4.map fun B o => o.only 4 rfl, by omega, by omega, by omega⟩
    · exact ⟨8, 2, 3, rfl, d4.map fun B o => o.only 5 rfl, by omega, by omega, by omega⟩
    · exact ⟨8, 4, 2, rfl, d4.map fun B o => o.only 6 rfl, by omega, by omega, by omega⟩
    · exact ⟨9, 3, 4, rfl, d4.map fun B o => o.only 7 rfl, by omega, by omega, by omega⟩
    · exact ⟨9, 3, 3, rfl, d4.map fun B o => o.only 8 rfl, by omega, by omega, by omega⟩
    · exact ⟨4, 2, 4, rfl, d4.map fun B o => o.only 9 rfl, by omega, by omega, by omega⟩
    · exact ⟨9, 3, 5, rfl, d4.map fun B o => o.only 10 rfl, by omega, by omega, by omega⟩
  clear hzc
  obtain ⟨a, b, c, pz, d5, ha, hb, hcc⟩ := pick
  have yn : ((z : Nat) : Int).toNat = z := rfl
  have i0 : (ints [(a : Int), (b : Int), (c : Int)])[0]? = some (.int .i64 a) := rfl
  have i1 : (ints [(a : Int), (b : Int), (c : Int)])[1]? = some (.int .i64 b) := rfl
  have i2 : (ints [(a : Int), (b : Int), (c : Int)])[2]? = some (.int .i64 c) := rfl
  have t0 : Int.toNat 0 = 0 := rfl
  have t1 : Int.toNat 1 = 1 := rfl
  have t2 : Int.toNat 2 = 2 := rfl
  have l0 : ((0 : Int) < ((3 : Nat) : Int)) = True := eq_true (by omega)
  have l1 : ((1 : Int) < ((3 : Nat) : Int)) = True := eq_true (by omega)
  have l2 : ((2 : Int) < ((3 : Nat) : Int)) = True := eq_true (by omega)
  generalize ([.slice (some ⟨h + 0, 0, some 1⟩) 3 3, .slice (some ⟨h + 1, 0, some 1⟩) 3 3, .slice (some ⟨h + 2, 0, some 1⟩) 3 3, .slice (some ⟨h + 3, 0, some 1⟩) 3 3, .slice (some ⟨h + 4, 0, some 1⟩) 3 3, .slice (some ⟨h + 5, 0, some 1⟩) 3 3, .slice (some ⟨h + 6, 0, some 1⟩) 3 3, .slice (some ⟨h + 7, 0, some 1⟩) 3 3, .slice (some ⟨h + 8, 0, some 1⟩) 3 3, .slice (some ⟨h + 9, 0, some 1⟩) 3 3, .slice (some ⟨h + 10, 0, some 1⟩) 3 3] : List Value) = outer at pz gz
  have nhz : ¬ h + z = H.next := by omega
  refine Holds.mp ?_
  simp (config := {maxSteps := 3000000}) (disch := first | omega | (simp only [L3] <;> omega)) only [Sall,evalOp,init,binA_s,binE,binI,unE,convE,okNil,builtE,gv,TD.isAgg,resV,↓reduceIte,Nat.reduceEqDiff,reduceCtorEq,Nat.reduceAdd,Nat.reduceMul,Nat.reduceLeDiff,quietOp,blindOp,Int.reduceEq,Int.reduceLT,Int.reduceLE,Nat.reduceLT,tiA,tiXA, gz, pz, yn]
  refine ⟨by omega, ?_⟩
  refine (nextD 12 d5 hsi hc hsc hnb (by omega)).ex ?_
  rintro m H6 ⟨hm, d6⟩
  have gy := d6.rowAt 0 rfl
  refine Holds.mp ?_
  have zz3 : zeros 3 [.int .i64 0] = [.int .i64 0, .int .i64 0, .int .i64 0] := rfl
  by_cases c0 : (m : Int) = 0
  · have f0 : ((m : Int) == 0) = true := beq_iff_eq.2 c0
    simp (config := {maxSteps := 3000000}) (disch := first | omega | (simp only [L3] <;> omega)) only [Sall,evalOp,init,binA_s,binE,binI,unE,convE,okNil,builtE,gv,TD.isAgg,resV,↓reduceIte,Nat.reduceEqDiff,reduceCtorEq,Nat.reduceAdd,Nat.reduceMul,Nat.reduceLeDiff,quietOp,blindOp,Int.reduceEq,Int.reduceLT,Int.reduceLE,Nat.reduceLT,tiA,tiXA, f0]
    refine draw_inS (fun j => j ≠ H.next) [0, 3, 4, 5, 6, 7, 8, 1, 2, 9, 10, 11] (by kernel_rfl) (by kernel_rfl) (by kernel_rfl) ?_
    try simp (disch := first | omega | (simp only [L3] <;> omega)) only [Sall,evalOp,init,binA_s,binE,binI,unE,convE,okNil,builtE,gv,TD.isAgg,resV,↓reduceIte,Nat.reduceEqDiff,reduceCtorEq,Nat.reduceAdd,Nat.reduceMul,Nat.reduceLeDiff,quietOp,blindOp,Int.reduceEq,Int.reduceLT,Int.reduceLE,Nat.reduceLT,tiA,tiXA, awpIS_nil, awpIS_cons, stepIS_op, loadOk, gy, nhz, i0, i1, i2, t0, t1, t2, l0, l1, l2, zz3]
    refine ⟨.inr (.inr (LE.les (d6.sc.le _))), ?_⟩
    refine (pickE [1, 10, 7] 3 rfl (by omega) (by omega) d6 hsi hc hsc hnb).ex ?_
    rintro x H7 ⟨hx, hles, d7⟩
    have hx2 : 1 ≤ x ∧ x ≤ 10 := by
      simp only [List.mem_cons, List.not_mem_nil, or_false] at hx
      omega
    refine ⟨.inr (.inr hles), ?_⟩
    try simp (disch := first | omega | (simp only [L3] <;> omega)) only [Sall,evalOp,init,binA_s,binE,binI,unE,convE,okNil,builtE,gv,TD.isAgg,resV,↓reduceIte,Nat.reduceEqDiff,reduceCtorEq,Nat.reduceAdd,Nat.reduceMul,Nat.reduceLeDiff,quietOp,blindOp,Int.reduceEq,Int.reduceLT,Int.reduceLE,Nat.reduceLT,tiA,tiXA, awpIS_nil, awpIS_cons, stepIS_op, loadOk, gy, nhz, i0, i1, i2, t0, t1, t2, l0, l1, l2]
    exact ⟨(x, (b, c)), rfl, ⟨by dsimp only; omega, by dsimp only; omega, by dsimp only; omega⟩, Ow.left (L := []) (Dr.fin ⟨d7.ex⟩ up1)⟩
  have f0 : ((m : Int) == 0) = false := beq_eq_false_iff_ne.2 c0
  by_cases c1 : (m : Int) = 1
  · have f1 : ((m : Int) == 1) = true := beq_iff_eq.2 c1
    simp (config := {maxSteps := 3000000}) (disch := first | omega | (simp only [L3] <;> omega)) only [Sall,evalOp,init,binA_s,binE,binI,unE,convE,okNil,builtE,gv,TD.isAgg,resV,↓reduceIte,Nat.reduceEqDiff,reduceCtorEq,Nat.reduceAdd,Nat.reduceMul,Nat.reduceLeDiff,quietOp,blindOp,Int.reduceEq,Int.reduceLT,Int.reduceLE,Nat.reduceLT,tiA,tiXA, f0, f1]
    refine draw_inS (fun j => j ≠ H.next) [0, 1, 2, 3, 4, 5, 6, 9, 10, 11, 7, 8, 12, 13, 14] (by kernel_rfl) (by kernel_rfl) (by kernel_rfl) ?_
    try simp (disch := first | omega | (simp only [L3] <;> omega)) only [Sall,evalOp,init,binA_s,binE,binI,unE,convE,okNil,builtE,gv,TD.isAgg,resV,↓reduceIte,Nat.reduceEqDiff,reduceCtorEq,Nat.reduceAdd,Nat.reduceMul,Nat.reduceLeDiff,quietOp,blindOp,Int.reduceEq,Int.reduceLT,Int.reduceLE,Nat.reduceLT,tiA,tiXA, awpIS_nil, awpIS_cons, stepIS_op, loadOk, gy, nhz, i0, i1, i2, t0, t1, t2, l0, l1, l2, zz3]
    refine ⟨.inr (.inr (LE.les (d6.sc.le _))), ?_⟩
    refine (pickE [1, 0, (a : Int)] 3 rfl (by omega) (by omega) d6 hsi hc hsc hnb).ex ?_
    rintro x H7 ⟨hx, hles, d7⟩
    have hx2 : 0 ≤ x ∧ x ≤ 10 := by
      simp only [List.mem_cons, List.not_mem_nil, or_false] at hx
      omega
    refine ⟨.inr (.inr hles), ?_⟩
    try simp (disch := first | omega | (simp only [L3] <;> omega)) only [Sall,evalOp,init,binA_s,binE,binI,unE,convE,okNil,builtE,gv,TD.isAgg,resV,↓reduceIte,Nat.reduceEqDiff,reduceCtorEq,Nat.reduceAdd,Nat.reduceMul,Nat.reduceLeDiff,quietOp,blindOp,Int.reduceEq,Int.reduceLT,Int.reduceLE,Nat.reduceLT,tiA,tiXA, awpIS_nil, awpIS_cons, stepIS_op, loadOk, gy, nhz, i0, i1, i2, t0, t1, t2, l0, l1, l2]
    exact ⟨(a, (x, c)), rfl, ⟨by dsimp only; omega, by dsimp only; omega, by dsimp only; omega⟩, Ow.left (L := []) (Dr.fin ⟨d7.ex⟩ up1)⟩
  have f1 : ((m : Int) == 1) = false := beq_eq_false_iff_ne.2 c1
  by_cases c2 : (m : Int) = 2
  · have f2 : ((m : Int) == 2) = true := beq_iff_eq.2 c2
    simp (config := {maxSteps := 3000000}) (disch := first | omega | (simp only [L3] <;> omega)) only [Sall,evalOp,init,binA_s,binE,binI,unE,convE,okNil,builtE,gv,TD.isAgg,resV,↓reduceIte,Nat.reduceEqDiff,reduceCtorEq,Nat.reduceAdd,Nat.reduceMul,Nat.reduceLeDiff,quietOp,blindOp,Int.reduceEq,Int.reduceLT,Int.reduceLE,Nat.reduceLT,tiA,tiXA, f0, f1, f2]
    refine draw_inS (fun j => j ≠ H.next) [0, 1, 2, 3, 4, 5, 6, 7, 8, 9, 10, 11] (by kernel_rfl) (by kernel_rfl) (by kernel_rfl) ?_
    try simp (disch := first | omega | (simp only [L3] <;> omega)) only [Sall,evalOp,init,binA_s,binE,binI,unE,convE,okNil,builtE,gv,TD.isAgg,resV,↓reduceIte,Nat.reduceEqDiff,reduceCtorEq,Nat.reduceAdd,Nat.reduceMul,Nat.reduceLeDiff,quietOp,blindOp,Int.reduceEq,Int.reduceLT,Int.reduceLE,Nat.reduceLT,tiA,tiXA, awpIS_nil, awpIS_cons, stepIS_op, loadOk, gy, nhz, i0, i1, i2, t0, t1, t2, l0, l1, l2, zz3]
    refine ⟨.inr (.inr (LE.les (d6.sc.le _))), ?_⟩
    refine (pickE [-1, 8, 0] 3 rfl (by omega) (by omega) d6 hsi hc hsc hnb).ex ?_
    rintro x H7 ⟨hx, hles, d7⟩
    have hx2 : -1 ≤ x ∧ x ≤ 10 := by
      simp only [List.mem_cons, List.not_mem_nil, or_false] at hx
      omega
    refine ⟨.inr (.inr hles), ?_⟩
    try simp (disch := first | omega | (simp only [L3] <;> omega)) only [Sall,evalOp,init,binA_s,binE,binI,unE,convE,okNil,builtE,gv,TD.isAgg,resV,↓reduceIte,Nat.reduceEqDiff,reduceCtorEq,Nat.reduceAdd,Nat.reduceMul,Nat.reduceLeDiff,quietOp,blindOp,Int.reduceEq,Int.reduceLT,Int.reduceLE,Nat.reduceLT,tiA,tiXA, awpIS_nil, awpIS_cons, stepIS_op, loadOk, gy, nhz, i0, i1, i2, t0, t1, t2, l0, l1, l2]
    exact ⟨(a, (b, x)), rfl, ⟨by dsimp only; omega, by dsimp only; omega, by dsimp only; omega⟩, Ow.left (L := []) (Dr.fin ⟨d7.ex⟩ up1)⟩
  have f2 : ((m : Int) == 2) = false := beq_eq_false_iff_ne.2 c2
  simp (config := {maxSteps := 3000000}) (disch := first | omega | (simp only [L3] <;> omega)) only [Sall,evalOp,init,binA_s,binE,binI,unE,convE,okNil,builtE,gv,TD.isAgg,resV,↓reduceIte,Nat.reduceEqDiff,reduceCtorEq,Nat.reduceAdd,Nat.reduceMul,Nat.reduceLeDiff,quietOp,blindOp,Int.reduceEq,Int.reduceLT,Int.reduceLE,Nat.reduceLT,tiA,tiXA, f0, f1, f2]
  refine draw_id (by kernel_rfl) (by kernel_rfl) ?_
  try simp (disch := first | omega | (simp only [L3] <;> omega)) only [Sall,evalOp,init,binA_s,binE,binI,unE,convE,okNil,builtE,gv,TD.isAgg,resV,↓reduceIte,Nat.reduceEqDiff,reduceCtorEq,Nat.reduceAdd,Nat.reduceMul,Nat.reduceLeDiff,quietOp,blindOp,Int.reduceEq,Int.reduceLT,Int.reduceLE,Nat.reduceLT,tiA,tiXA, gy, i0, i1, i2, t0, t1, t2, l0, l1, l2]
  exact ⟨(a, (b, c)), rfl, ⟨by dsimp only; omega, by dsimp only; omega, by dsimp only; omega⟩, Ow.left (L := []) (Dr.fin ⟨d6.ex⟩ up1)⟩
end Go.Proofs.YtollphjompimjaaGreat.A
end

section
set_option maxRecDepth 100000
set_option maxHeartbeats 2000000
namespace Go.Proofs.YtollphjompimjaaGreat.A
open Go Go.Abs Go.RowKit
theorem drawNextGolf_c (cv : Value) (nb : Nat) (H : AH) (hnb : nb ≤ 4611686018427387904) (hc0 : CodeOk H cv nb) :
    ACalls Tryz.prog 5 [cv] H (fun r H' => ∃ p : (Int × Int) × Value, r = .agg #[.int .i64 p.1.1, .int .i64 p.1.2, p.2] ∧ WithG H p H') := by
  refine ACalls.wf (by kernel_rfl) fun hsc0 => acalls_of_awp [.cell 2 26] Tryz.func5 (by kernel_rfl) rfl rfl (Nat.le_of_ble_eq_true rfl) (by kernel_rfl) ?_
  have o1 := (Ow.refl hsc0).push ⟨26, true, [.int .i64 0, .int .i64 0, .slice none 0 0]⟩
  have hone := hc0.one
  have b0 := (o1.rowAt 0 rfl)
  try simp (disch := first | omega | (simp only [L3] <;> omega)) only [Sall,evalOp,init,binA_s,binE,binI,unE,convE,okNil,builtE,gv,TD.isAgg,resV,↓reduceIte,Nat.reduceEqDiff,reduceCtorEq,Nat.reduceAdd,Nat.reduceMul,Nat.reduceLeDiff,quietOp,blindOp,Int.reduceEq,Int.reduceLT,Int.reduceLE,Nat.reduceLT,tiA,tiXA, hone]
  generalize H.push ⟨26, true, [.int .i64 0, .int .i64 0, .slice none 0 0]⟩ = H1 at o1 b0 ⊢
  have hc1 : CodeOk H1 cv nb := codeUp hc0 (o1.old hsc0)
  refine (l01From_c cv nb H1 hnb hc1).fin ?_
  rintro H2 ⟨up2, hsc, hsi, hs⟩
  have hc := CodeX.of hc1 o1.sc up2
  refine Holds.mp ?_
  try simp (disch := first | omega | (simp only [L3] <;> omega)) only [Sall,evalOp,init,binA_s,binE,binI,unE,convE,okNil,builtE,gv,TD.isAgg,resV,↓reduceIte,Nat.reduceEqDiff,reduceCtorEq,Nat.reduceAdd,Nat.reduceMul,Nat.reduceLeDiff,quietOp,blindOp,Int.reduceEq,Int.reduceLT,Int.reduceLE,Nat.reduceLT,tiA,tiXA, hone]
  refine (l08Draw_c cv nb H2 hnb hc.now).ex ?_
  rintro ⟨⟨q, g⟩, u⟩ H3 ⟨ll, hq, hg, hll, hsl, ⟨ws, hr⟩, o3⟩
  dsimp only at hq hg hr hsl
  have hu := (hr H3 fun _ _ _ h => h).rg.one
  have d1 := ((((Dq.start hs hsc).calls o3).push ⟨26, true, [.int .i64 0, .int .i64 0, .slice none 0 0]⟩).putRow 0 rfl (cs' := [.int .i64 q, .int .i64 g, u]))
  have b3 := o3.next
  have keep : ∀ i r, H2.next ≤ i → H3.row i = some r → ((H3.push ⟨26, true, [.int .i64 0, .int .i64 0, .slice none 0 0]⟩).setCells H3.next [.int .i64 q, .int .i64 g, u]).row i = some r := fun i r hi hr => by
    have := o3.sc _ _ hr
    rw [AH.setCells_row, if_neg (by omega), AH.push_row, if_neg (by omega)]; exact hr
  obtain ⟨ri, eri⟩ : ∃ ri, ri = H3.next := ⟨_, rfl⟩
  refine awpOps_mono (Q := fun t H' => t 4 = .pointer (some ⟨ri, 0, none⟩) ∧ t 2 = .pointer (some ⟨H.next, 0, none⟩) ∧ t 3 = .pointer (some ⟨H1.next, 0, none⟩) ∧ H' = (H3.push ⟨26, true, [.int .i64 0, .int .i64 0, .slice none 0 0]⟩).setCells ri [.int .i64 q, .int .i64 g, u]) (fun t H' hh => ?_) _ _ _ ?_
  rotate_left
  · refine Holds.mp ?_
    try simp (disch := first | omega | (simp only [L3] <;> omega)) only [Sall,evalOp,init,binA_s,binE,binI,unE,convE,okNil,builtE,gv,TD.isAgg,resV,↓reduceIte,Nat.reduceEqDiff,reduceCtorEq,Nat.reduceAdd,Nat.reduceMul,Nat.reduceLeDiff,quietOp,blindOp,Int.reduceEq,Int.reduceLT,Int.reduceLE,Nat.reduceLT,tiA,tiXA, hu, eri]
  obtain ⟨h4, h2, h3, eH⟩ := hh
  have d1 : Dq cv nb H1.next H2 ((H3.push ⟨26, true, [.int .i64 0, .int .i64 0, .slice none 0 0]⟩).setCells H3.next [.int .i64 q, .int .i64 g, u]) [.row H3.next ⟨26, true, [.int .i64 q, .int .i64 g, u]⟩] := d1
  rw [← eri] at d1 keep
  rw [← eH] at d1 keep
  clear eH
  generalize H' = H4 at d1 keep ⊢
  have nri : ¬ ri = H1.next := by have := b3; omega
  have nh : ¬ H.next = H1.next := by omega
  have hr4 := hr H4 keep
  have l1 : ll.length ≤ 4194304 := by omega
  have l2 : ∀ r ∈ ll, r.length ≤ 4194304 := fun r h => by have := hll.2 r h; omega
  have hlen := hr4.rg.len
  have g1 := d1.rowAt 0 rfl
  obtain ⟨c2, ec2⟩ : ∃ c2, c2 = H.next := ⟨_, rfl⟩
  rw [← ec2] at h2
  have nri2 : ¬ ri = c2 := by omega
  -- the first cut
  refine awp_cut (fun t H' => t 4 = .pointer (some ⟨ri, 0, none⟩) ∧ t 2 = .pointer (some ⟨c2, 0, none⟩) ∧ ∃ (u' : Value) (ws' : List Value) (ll' : List (List Int)), (ll'.length ≤ 7 ∧ ∀ r ∈ ll', r.length ≤ 1000) ∧ Sld 1 u' ll'.length ∧ (∀ Hx, (∀ i r, H2.next ≤ i → H3.row i = some r → Hx.row i = some r) → Rc u' ws' ll' Hx) ∧ Dq cv nb H1.next H2 H' [.row ri ⟨26, true, [.int .i64 q, .int .i64 g, u']⟩] ∧ ∀ i r, H2.next ≤ i → H3.row i = some r → H'.row i = some r) ?_ ?_
  · try simp (disch := first | omega | (simp only [L3] <;> omega)) only [Sall,evalOp,init,binA_s,binE,binI,unE,convE,okNil,builtE,gv,TD.isAgg,resV,↓reduceIte,Nat.reduceEqDiff,reduceCtorEq,Nat.reduceAdd,Nat.reduceMul,Nat.reduceLeDiff,quietOp,blindOp,Int.reduceEq,Int.reduceLT,Int.reduceLE,Nat.reduceLT,tiA,tiXA, h4, g1, hu]
    refine (l08Is_c q g u ll H4 hr4.rg.rd2 l1 l2).to ?_
    refine Holds.mp ?_
    cases hE : golfB q g ll with
    | false =>
      try simp (disch := first | omega | (simp only [L3] <;> omega)) only [Sall,evalOp,init,binA_s,binE,binI,unE,convE,okNil,builtE,gv,TD.isAgg,resV,↓reduceIte,Nat.reduceEqDiff,reduceCtorEq,Nat.reduceAdd,Nat.reduceMul,Nat.reduceLeDiff,quietOp,blindOp,Int.reduceEq,Int.reduceLT,Int.reduceLE,Nat.reduceLT,tiA,tiXA, h4, h2]
      exact ⟨u, ws, ll, hll, hsl, hr, d1, keep⟩
    | true =>
      by_cases h1 : 1 < ll.length
      · have e1 : decide ((1 : Int) < (ll.length : Int)) = true := decide_eq_true (by omega)
        try simp (disch := first | omega | (simp only [L3] <;> omega)) only [Sall,evalOp,init,binA_s,binE,binI,unE,convE,okNil,builtE,gv,TD.isAgg,resV,↓reduceIte,Nat.reduceEqDiff,reduceCtorEq,Nat.reduceAdd,Nat.reduceMul,Nat.reduceLeDiff,quietOp,blindOp,Int.reduceEq,Int.reduceLT,Int.reduceLE,Nat.reduceLT,tiA,tiXA, h4, g1, hu, builtE, hlen, e1, h3]
        refine (nextE 2 d1 hsi hc hsc hnb (by omega)).ex ?_
        rintro x H5 ⟨hx, hles, d2⟩
        have keep5 : ∀ i r, H2.next ≤ i → H3.row i = some r → H5.row i = some r := fun i r hi hr => hles.row i r (by show i ≠ H1.next; omega) (keep i r hi hr)
        have g2 := d2.rowAt 0 rfl
        refine Holds.mp ?_
        by_cases hx0 : (x : Int) = 0
        · have f0 : ((x : Int) == 0) = true := beq_iff_eq.2 hx0
          obtain ⟨w, hcut, hw, hsw⟩ := Rc_cut hr4 hsl (k := 1) (by omega) (hi := some 1) rfl
          have hw5 := hw H5 (hr H5 keep5)
          have hwo := hw5.rg.one
          have hl1 : (ll.take 1).length = 1 := by rw [List.length_take]; omega
          try simp (disch := first | omega | (simp only [L3] <;> omega)) only [Sall,evalOp,init,binA_s,binE,binI,unE,convE,okNil,builtE,gv,TD.isAgg,resV,↓reduceIte,Nat.reduceEqDiff,reduceCtorEq,Nat.reduceAdd,Nat.reduceMul,Nat.reduceLeDiff,quietOp,blindOp,Int.reduceEq,Int.reduceLT,Int.reduceLE,Nat.reduceLT,tiA,tiXA, h4, f0, g2, hu]
          refine hcut _ _ _ _ rfl ?_
          have d3 := d2.putRow 0 rfl (cs' := [.int .i64 q, .int .i64 g, w])
          try simp (disch := first | omega | (simp only [L3] <;> omega)) only [Sall,evalOp,init,binA_s,binE,binI,unE,convE,okNil,builtE,gv,TD.isAgg,resV,↓reduceIte,Nat.reduceEqDiff,reduceCtorEq,Nat.reduceAdd,Nat.reduceMul,Nat.reduceLeDiff,quietOp,blindOp,Int.reduceEq,Int.reduceLT,Int.reduceLE,Nat.reduceLT,tiA,tiXA, h4, h2, g2, hwo]
          refine ⟨w, ws.take 1, ll.take 1, ⟨by omega, fun r h => hll.2 r (List.mem_of_mem_take h)⟩, by rw [hl1]; exact hsw, fun Hx hx => hw Hx (hr Hx hx), d3, fun i r hi hr => ?_⟩
          rw [if_neg (by have := o3.sc _ _ hr; omega)]
          exact keep5 i r hi hr
        · have f0 : ((x : Int) == 0) = false := beq_eq_false_iff_ne.2 hx0
          try simp (disch := first | omega | (simp only [L3] <;> omega)) only [Sall,evalOp,init,binA_s,binE,binI,unE,convE,okNil,builtE,gv,TD.isAgg,resV,↓reduceIte,Nat.reduceEqDiff,reduceCtorEq,Nat.reduceAdd,Nat.reduceMul,Nat.reduceLeDiff,quietOp,blindOp,Int.reduceEq,Int.reduceLT,Int.reduceLE,Nat.reduceLT,tiA,tiXA, h4, h2, f0]
          exact ⟨u, ws, ll, hll, hsl, hr, d2, keep5⟩
      · have e1 : decide ((1 : Int) < (ll.length : Int)) = false := decide_eq_false (by omega)
        try simp (disch := first | omega | (simp only [L3] <;> omega)) only [Sall,evalOp,init,binA_s,binE,binI,unE,convE,okNil,builtE,gv,TD.isAgg,resV,↓reduceIte,Nat.reduceEqDiff,reduceCtorEq,Nat.reduceAdd,Nat.reduceMul,Nat.reduceLeDiff,quietOp,blindOp,Int.reduceEq,Int.reduceLT,Int.reduceLE,Nat.reduceLT,tiA,tiXA, h4, h2, g1, hu, builtE, hlen, e1]
        exact ⟨u, ws, ll, hll, hsl, hr, d1, keep⟩
  · clear hr4 hlen g1 d1 keep h4 h2 h3 l1 l2 hu hr hsl hll
    rintro t H5 ⟨h4, h2, u, ws, ll, hll, hsl, hr, d2, keep5⟩
    have g2 := d2.rowAt 0 rfl
    have hr5 := hr H5 keep5
    have hu := hr5.rg.one
    have hlen := hr5.rg.len
    refine awp_cut (fun t H' => t 4 = .pointer (some ⟨ri, 0, none⟩) ∧ t 2 = .pointer (some ⟨c2, 0, none⟩) ∧ ∃ (u' : Value) (ws' : List Value) (ll' : List (List Int)), (ll'.length ≤ 7 ∧ ∀ r ∈ ll', r.length ≤ 1000) ∧ Sld 1 u' ll'.length ∧ (∀ Hx, (∀ i r, H2.next ≤ i → H3.row i = some r → Hx.row i = some r) → Rc u' ws' ll' Hx) ∧ Dq cv nb H1.next H2 H' [.row ri ⟨26, true, [.int .i64 q, .int .i64 g, u']⟩] ∧ ∀ i r, H2.next ≤ i → H3.row i = some r → H'.row i = some r) ?_ ?_
    · by_cases q16 : q = 16
      · have f1 : (q == 16) = true := beq_iff_eq.2 q16
        obtain ⟨k, ek, hk1, hk2⟩ : ∃ k : Nat, (if (1 : Int) < (ll.length : Int) then 1 else (ll.length : Int)) = (k : Int) ∧ k ≤ ll.length ∧ k ≤ 1 := by
          by_cases h1 : (1 : Int) < (ll.length : Int)
          · exact ⟨1, by rw [if_pos h1]; rfl, by omega, by omega⟩
          · exact ⟨ll.length, by rw [if_neg h1], by omega, by omega⟩
        obtain ⟨w, hcut, hw, hsw⟩ := Rc_cut hr5 hsl hk1 (hi := some (k : Int)) rfl
        have hw5 := hw H5 hr5
        have hwo := hw5.rg.one
        have hlk : (ll.take k).length = k := by rw [List.length_take]; omega
        try simp (disch := first | omega | (simp only [L3] <;> omega)) only [Sall,evalOp,init,binA_s,binE,binI,unE,convE,okNil,builtE,gv,TD.isAgg,resV,↓reduceIte,Nat.reduceEqDiff,reduceCtorEq,Nat.reduceAdd,Nat.reduceMul,Nat.reduceLeDiff,quietOp,blindOp,Int.reduceEq,Int.reduceLT,Int.reduceLE,Nat.reduceLT,tiA,tiXA, h4, f1, g2, hu, builtE, hlen, ek]
        refine hcut _ _ _ _ rfl ?_
        have d3 := d2.putRow 0 rfl (cs' := [.int .i64 q, .int .i64 g, w])
        try simp (disch := first | omega | (simp only [L3] <;> omega)) only [Sall,evalOp,init,binA_s,binE,binI,unE,convE,okNil,builtE,gv,TD.isAgg,resV,↓reduceIte,Nat.reduceEqDiff,reduceCtorEq,Nat.reduceAdd,Nat.reduceMul,Nat.reduceLeDiff,quietOp,blindOp,Int.reduceEq,Int.reduceLT,Int.reduceLE,Nat.reduceLT,tiA,tiXA, h4, h2, g2, hwo]
        refine ⟨w, ws.take k, ll.take k, ⟨by omega, fun r h => hll.2 r (List.mem_of_mem_take h)⟩, by rw [hlk]; exact hsw, fun Hx hx => hw Hx (hr Hx hx), d3, fun i r hi hr => ?_⟩
        rw [if_neg (by have := o3.sc _ _ hr; omega)]
        exact keep5 i r hi hr
      · have f1 : (q == 16) = false := beq_eq_false_iff_ne.2 q16
        by_cases q15 : q = 15
        · have f2 : (q == 15) = true := beq_iff_eq.2 q15
          obtain ⟨k, ek, hk1, hk2⟩ : ∃ k : Nat, (if (1 : Int) < (ll.length : Int) then 1 else (ll.length : Int)) = (k : Int) ∧ k ≤ ll.length ∧ k ≤ 1 := by
            by_cases h1 : (1 : Int) < (ll.length : Int)
            · exact ⟨1, by rw [if_pos h1]; rfl, by omega, by omega⟩
            · exact ⟨ll.length, by rw [if_neg h1], by omega, by omega⟩
          obtain ⟨w, hcut, hw, hsw⟩ := Rc_cut hr5 hsl hk1 (hi := some (k : Int)) rfl
          have hw5 := hw H5 hr5
          have hwo := hw5.rg.one
          have hlk : (ll.take k).length = k := by rw [List.length_take]; omega
          try simp (disch := first | omega | (simp only [L3] <;> omega)) only [Sall,evalOp,init,binA_s,binE,binI,unE,convE,okNil,builtE,gv,TD.isAgg,resV,↓reduceIte,Nat.reduceEqDiff,reduceCtorEq,Nat.reduceAdd,Nat.reduceMul,Nat.reduceLeDiff,quietOp,blindOp,Int.reduceEq,Int.reduceLT,Int.reduceLE,Nat.reduceLT,tiA,tiXA, h4, f1, f2, g2, hu, builtE, hlen, ek]
          refine hcut _ _ _ _ rfl ?_
          have d3 := d2.putRow 0 rfl (cs' := [.int .i64 q, .int .i64 g, w])
          try simp (disch := first | omega | (simp only [L3] <;> omega)) only [Sall,evalOp,init,binA_s,binE,binI,unE,convE,okNil,builtE,gv,TD.isAgg,resV,↓reduceIte,Nat.reduceEqDiff,reduceCtorEq,Nat.reduceAdd,Nat.reduceMul,Nat.reduceLeDiff,quietOp,blindOp,Int.reduceEq,Int.reduceLT,Int.reduceLE,Nat.reduceLT,tiA,tiXA, h4, h2, g2, hwo]
          refine ⟨w, ws.take k, ll.take k, ⟨by omega, fun r h => hll.2 r (List.mem_of_mem_take h)⟩, by rw [hlk]; exact hsw, fun Hx hx => hw Hx (hr Hx hx), d3, fun i r hi hr => ?_⟩
          rw [if_neg (by have := o3.sc _ _ hr; omega)]
          exact keep5 i r hi hr
        · have f2 : (q == 15) = false := beq_eq_false_iff_ne.2 q15
          try simp (disch := first | omega | (simp only [L3] <;> omega)) only [Sall,evalOp,init,binA_s,binE,binI,unE,convE,okNil,builtE,gv,TD.isAgg,resV,↓reduceIte,Nat.reduceEqDiff,reduceCtorEq,Nat.reduceAdd,Nat.reduceMul,Nat.reduceLeDiff,quietOp,blindOp,Int.reduceEq,Int.reduceLT,Int.reduceLE,Nat.reduceLT,tiA,tiXA, h4, h2, f1, f2, g2]
          exact ⟨u, ws, ll, hll, hsl, hr, d2, keep5⟩
    · clear hr5 hlen g2 d2 keep5 h4 h2 hu hr hsl hll
      rintro t H6 ⟨h4, h2, u, ws, ll, hll, hsl, hr, d2, keep6⟩
      have g2 := d2.rowAt 0 rfl
      have hu := (hr H6 keep6).rg.one
      have g0 : H6.row c2 = some ⟨26, true, [.int .i64 0, .int .i64 0, .slice none 0 0]⟩ := by
        rw [d2.lowEq (by omega) (by omega), up2.row _ (by omega), ec2]; exact b0.1
      have hle := d2.le
      try simp (disch := first | omega | (simp only [L3] <;> omega)) only [Sall,evalOp,init,binA_s,binE,binI,unE,convE,okNil,builtE,gv,TD.isAgg,resV,↓reduceIte,Nat.reduceEqDiff,reduceCtorEq,Nat.reduceAdd,Nat.reduceMul,Nat.reduceLeDiff,quietOp,blindOp,Int.reduceEq,Int.reduceLT,Int.reduceLE,Nat.reduceLT,tiA,tiXA, h4, h2, g2, hu, g0]
      refine ⟨((q, g), u), rfl, ll, hq, hg, hll, hsl, ⟨ws, fun Hx hx => hr Hx fun i r hi hr => hx i r (by omega) ?_⟩, Ow.of_up ⟨by show H.next ≤ H6.next; omega, fun i hi => ?_⟩ (d2.sc.set _ _)⟩
      · rw [AH.setCells_row, if_neg (by omega)]; exact keep6 i r hi hr
      · rw [AH.setCells_row, if_neg (by omega), d2.lowEq (by omega) (by omega), up2.row _ (by omega), o1.low _ hi]
end Go.Proofs.YtollphjompimjaaGreat.A
end

section
set_option maxRecDepth 100000
namespace Go.Abs
def rowOkG (n : Nat) (y : List Int) : Bool := decide (y.length = n) && y.all (fun x => decide (0 ≤ x ∧ x < (n : Int))) && decide y.Nodup
def sameR (g : Nat) (l : List Int) (x y : Int) : Bool := (List.range (l.length / g)).any fun t => ((l.drop (t * g)).take g).contains x && ((l.drop (t * g)).take g).contains y
theorem sameR_cnt {n g c : Nat} (hg : 0 < g) (hn : n = g * c) {l : List Int} (ho : ordB n l = true) {x y : Nat} (hx : x < n) (hy : y < n) (hxy : x ≠ y) : (gxL n l (pgS g n)).count (ixN n x y) = if sameR g l x y = true then 1 else 0 := by
  obtain ⟨a, b, ha, hb, e1, e2, e3⟩ := round_at hg hn ho hx hy
  rw [e3]
  have hl := ((ordB_iff n l).1 ho).1
  have hc : l.length / g = c := by rw [hl, hn, Nat.mul_div_cancel_left _ hg]
  have hm : ∀ (t : Nat) (z : Int), z ∈ (l.drop (t * g)).take g ↔ ∃ i, i < n ∧ i / g = t ∧ l.getD i 0 = z := fun t z => by
    rw [← blk_mem hg hn ho]
    unfold blkL
    exact (sortedL_perm _).mem_iff.symm
  have hab : b ≠ a := fun e => hxy (by subst e; omega)
  have key : sameR g l x y = true ↔ b / g = a / g := by
    unfold sameR
    rw [List.any_eq_true]
    constructor
    · rintro ⟨t, _, h⟩
      rw [Bool.and_eq_true, List.contains_iff_mem, List.contains_iff_mem, hm, hm] at h
      obtain ⟨⟨i, i1, i2, i3⟩, j, j1, j2, j3⟩ := h
      obtain rfl := ord_same ho i1 ha (i3.trans e1.symm)
      obtain rfl := ord_same ho j1 hb (j3.trans e2.symm)
      omega
    · intro h
      refine ⟨a / g, ?_, ?_⟩
      · rw [List.mem_range, hc]
        rw [hn] at ha
        exact Nat.div_lt_of_lt_mul ha
      · rw [Bool.and_eq_true, List.contains_iff_mem, List.contains_iff_mem, hm, hm]
        exact ⟨⟨a, ha, rfl, e1⟩, ⟨b, hb, h, e2⟩⟩
  by_cases h : b / g = a / g
  · rw [if_pos ⟨hab, h⟩, if_pos (key.2 h)]
  · rw [if_neg (fun h2 => h h2.2), if_neg (fun h2 => h (key.1 h2))]
theorem sameR_sum {n g c : Nat} (hg : 0 < g) (hn : n = g * c) {R : List (List Int)} {x y : Nat} (hx : x < n) (hy : y < n) (hxy : x ≠ y) : ∀ r, r ≤ R.length → (∀ i, i < r → ordB n (R.getD i []) = true) → (gxS n g R r).count (ixN n x y) = ((R.take r).filter fun l => sameR g l x y).length
  | 0, _, _ => by simp [gxS]
  | r + 1, hr, h => by
    rw [gxS_cnt, sameR_sum hg hn hx hy hxy r (by omega) fun i hi => h i (by omega), sameR_cnt hg hn (h r (by omega)) hx hy hxy]
    have e : R.take (r + 1) = R.take r ++ [R.getD r []] := by
      rw [List.take_add_one, List.getD_eq_getElem?_getD, List.getElem?_eq_getElem (by omega)]; rfl
    rw [e, List.filter_append, List.length_append]
    congr 1
    by_cases hs : sameR g (R.getD r []) x y = true
    · rw [if_pos hs, List.filter_cons_of_pos (by exact hs)]; rfl
    · rw [if_neg hs, List.filter_cons_of_neg (by exact hs)]; rfl
def gridChk (k : Nat) (R : List (List Int)) : Bool := ((List.range (k + 1)).all fun i => rowOkG (k * k) (R.getD i [])) && (List.range (k * k)).all fun x => (List.range x).all fun y => decide ((R.filter fun l => sameR k l x y).length = 1)
theorem grd5 : grdL 5 6 = [[0, 5, 10, 15, 20, 1, 6, 11, 16, 21, 2, 7, 12, 17, 22, 3, 8, 13, 18, 23, 4, 9, 14, 19, 24], [0, 6, 12, 18, 24, 1, 7, 13, 19, 20, 2, 8, 14, 15, 21, 3, 9, 10, 16, 22, 4, 5, 11, 17, 23], [0, 7, 14, 16, 23, 1, 8, 10, 17, 24, 2, 9, 11, 18, 20, 3, 5, 12, 19, 21, 4, 6, 13, 15, 22], [0, 8, 11, 19, 22, 1, 9, 12, 15, 23, 2, 5, 13, 16, 24, 3, 6, 14, 17, 20, 4, 7, 10, 18, 21], [0, 9, 13, 17, 21, 1, 5, 14, 18, 22, 2, 6, 10, 19, 23, 3, 7, 11, 15, 24, 4, 8, 12, 16, 20], [0, 1, 2, 3, 4, 5, 6, 7, 8, 9, 10, 11, 12, 13, 14, 15, 16, 17, 18, 19, 20, 21, 22, 23, 24]] := by decide +kernel
theorem gridChk2 : gridChk 2 (grdL 2 3) = true := by decide +kernel
theorem gridChk3 : gridChk 3 (grdL 3 4) = true := by decide +kernel
theorem gridChk5 : gridChk 5 (grdL 5 6) = true := by rw [grd5]; decide +kernel
theorem grid_full {k : Nat} (hk : k = 2 ∨ k = 3 ∨ k = 5) : fulG ((k : Int) * (k : Int)) k (grdL k (k + 1)) = true := by
  have h : gridChk k (grdL k (k + 1)) = true := by
    rcases hk with rfl | rfl | rfl
    · exact gridChk2
    · exact gridChk3
    · exact gridChk5
  unfold gridChk at h
  rw [Bool.and_eq_true, List.all_eq_true, List.all_eq_true] at h
  obtain ⟨h1, h2⟩ := h
  have hk0 : 0 < k := by omega
  have hord : ∀ i, i < (grdL k (k + 1)).length → ordB (k * k) ((grdL k (k + 1)).getD i []) = true := fun i hi => by
    rw [grdL_length] at hi
    have h3 := h1 i (List.mem_range.2 hi)
    unfold rowOkG at h3
    rw [Bool.and_eq_true, Bool.and_eq_true, decide_eq_true_iff, decide_eq_true_iff, List.all_eq_true] at h3
    exact (ordB_iff _ _).2 ⟨h3.1.1, fun x hx => of_decide_eq_true (h3.1.2 x hx), h3.2⟩
  have hea : eachB eq1 (gmM (k * k) k (grdL k (k + 1))) = true := by
    rw [each_iff (gmM_sq _ _ _)]
    intro x hx y hy hxy
    have key : ∀ x y, x < k * k → y < k * k → y < x → ((gmM (k * k) k (grdL k (k + 1))).getD x []).getD y 0 = 1 := fun x y hx hy hlt => by
      unfold gmM
      rw [cntMx_at _ _ _ _ hx hy, sameR_sum hk0 rfl hx hy (by omega) _ (Nat.le_refl _) hord, List.take_length]
      have h4 := h2 x (List.mem_range.2 hx)
      rw [List.all_eq_true] at h4
      have h5 := of_decide_eq_true (h4 y (List.mem_range.2 hlt))
      rw [h5]; rfl
    have sym : ((gmM (k * k) k (grdL k (k + 1))).getD x []).getD y 0 = ((gmM (k * k) k (grdL k (k + 1))).getD y []).getD x 0 := by
      unfold gmM
      rw [cntMx_at _ _ _ _ hx hy, cntMx_at _ _ _ _ hy hx, gx_sym hk0 rfl hx hy _ hord]
    unfold eq1
    rw [beq_iff_eq]
    rcases Nat.lt_or_gt_of_ne hxy with hlt | hlt
    · rw [sym]; exact key y x hy hx hlt
    · exact key x y hx hy hlt
  have e : ((k : Int) * (k : Int)) = ((k * k : Nat) : Int) := (Int.natCast_mul _ _).symm
  unfold fulG
  rw [e, Int.toNat_natCast, Int.toNat_natCast, hea, Bool.and_true]
  unfold golfB
  rw [Bool.and_eq_true, Bool.and_eq_true, grdL_length, Int.toNat_natCast]
  refine ⟨?_, decide_eq_true (by omega), ?_⟩
  · rcases hk with rfl | rfl | rfl <;> decide
  · rw [List.all_eq_true]
    intro i hi
    exact hord i (by rw [grdL_length]; exact List.mem_range.1 hi)
theorem glC_soc {q g : Int} {R : List (List Int)} (h : socG q g R = true) : glC q g R true = 0 := by
  unfold socG at h
  rw [Bool.and_eq_true] at h
  unfold glC
  rw [if_pos h.1, if_pos rfl]
theorem glC_ful {q g : Int} {R : List (List Int)} (h : fulG q g R = true) : glC q g R true = 0 := by
  unfold fulG at h
  rw [Bool.and_eq_true] at h
  unfold glC
  rw [if_pos h.1, if_pos rfl]
theorem fg_social {q g k : Int} (h : fgC q g k = 0) : socG (fgQ q g k) (fgG q g k) (fgR q g k) = true ∧ ((fgR q g k).length : Int) = k ∧ fgQ q g k = q := by
  unfold fgC at h
  split at h
  · rename_i hB
    cases hV : fgV q g k with
    | none => rw [hV] at h; simp at h
    | some X =>
      unfold fgQ fgG fgR
      rw [hV]
      unfold fgV at hV
      split at hV
      · rename_i hk
        unfold fgB at hB
        rw [Bool.and_eq_true, decide_eq_true_iff] at hB
        obtain ⟨hS, hk7⟩ := hB
        obtain ⟨n, gN, c, rfl, rfl, q0, q1, q2, q3, q4, q5⟩ := golfS_at hS
        obtain ⟨kN, rfl⟩ : ∃ kN : Nat, k = kN := ⟨k.toNat, by omega⟩
        rw [Int.toNat_natCast, Int.toNat_natCast, Int.toNat_natCast] at hV
        have h0 : eachB le1 (gmM n gN []) = true := by
          rw [each_iff (gmM_sq n gN [])]
          intro i hi j hj hij
          unfold gmM
          rw [cntMx_at _ _ _ _ hi hj]
          simp [gxS, le1]
        obtain ⟨i1, i2, i3⟩ := fgF_ok q1 q0 (by omega) kN [] X (by simp; omega) (fun i h => by simp at h) h0 hV
        simp only [List.length_nil, Nat.zero_add] at i1
        refine ⟨?_, by show (X.length : Int) = _; omega, rfl⟩
        show socG (n : Int) (gN : Int) X = true
        unfold socG
        rw [Int.toNat_natCast, Int.toNat_natCast, i3, Bool.and_true]
        unfold golfB
        rw [Bool.and_eq_true, Bool.and_eq_true]
        refine ⟨?_, decide_eq_true (by omega), ?_⟩
        · unfold golfS at hS ⊢
          rw [Bool.and_eq_true, decide_eq_true_iff] at hS ⊢
          exact ⟨by omega, hS.2⟩
        · rw [List.all_eq_true]
          intro i hi
          rw [Int.toNat_natCast]
          exact i2 i (List.mem_range.1 hi)
      · cases hV
  · cases h
theorem nx_facts {q g : Int} {R : List (List Int)} (h : nxC q g R = 0) (hl : R.length ≤ 7) : socG q g (R ++ [nxR q g R]) = true ∧ tidV q g (R ++ [nxR q g R]) (R.length : Int) = nxR q g R := by
  have hV : nxV q g R ≠ [] := by
    intro e
    unfold nxC at h
    split at h
    · split at h
      · cases h
      · split at h
        · simp [e] at h
        · cases h
    · cases h
  have hok : nxOk q g R = true := by
    unfold nxV at hV
    by_cases e : nxOk q g R = true
    · exact e
    · rw [if_neg e] at hV; exact absurd rfl hV
  have hmem : nxR q g R ∈ nxV q g R := by
    unfold nxR
    cases hh : nxV q g R with
    | nil => exact absurd hh hV
    | cons r L => simp
  have hokk := hok
  unfold nxOk at hok
  rw [Bool.and_eq_true, Bool.and_eq_true, Bool.and_eq_true] at hok
  obtain ⟨hB, _, hS, _⟩ := hok
  generalize nxR q g R = r at *
  unfold nxV at hmem
  rw [if_pos hokk] at hmem
  have hB0 := hB
  obtain ⟨n, gN, c, rfl, rfl, q0, q1, q2, q3, q4, q5, q6, q7⟩ := golfB_at hB
  rw [Int.toNat_natCast, Int.toNat_natCast] at hmem hS
  have hx := nxt_of (by omega) hmem
  have hsym : ∀ x y, x < n → y < n → ((gmM n gN R).getD x []).getD y 0 = ((gmM n gN R).getD y []).getD x 0 := fun x y h1 h2 => (gmM_facts q1 q0 q4 q6 q7 h1).2.2.2.2 y h2
  have h2 := nxt_eachB q1 q0 hx hS hsym
  have hgol : golfB n gN (R ++ [r]) = true := by
    unfold golfB at hB0 ⊢
    rw [Bool.and_eq_true, Bool.and_eq_true] at hB0 ⊢
    refine ⟨hB0.1, decide_eq_true (by rw [List.length_append]; simp; omega), ?_⟩
    rw [List.all_eq_true]
    intro i hi
    rw [List.mem_range, List.length_append, List.length_singleton] at hi
    rw [Int.toNat_natCast]
    by_cases e : i < R.length
    · rw [List.getD_eq_getElem?_getD, List.getElem?_append_left e, ← List.getD_eq_getElem?_getD]; exact q7 i e
    · rw [show i = R.length by omega, List.getD_eq_getElem?_getD, List.getElem?_append_right (Nat.le_refl _), Nat.sub_self]; exact hx.ord
  refine ⟨by unfold socG; rw [hgol, Int.toNat_natCast, Int.toNat_natCast, h2]; rfl, ?_⟩
  unfold tidV
  rw [if_pos ⟨hgol, by rw [List.length_append, List.length_singleton]; omega⟩, Int.toNat_natCast, Int.toNat_natCast, Int.toNat_natCast, List.getD_eq_getElem?_getD, List.getElem?_append_right (Nat.le_refl _), Nat.sub_self]
  exact nxt_tidy q1 q0 hx
theorem nxR_no {q g : Int} {R : List (List Int)} (h : nxC q g R ≠ 0) : nxR q g R = [] := by
  apply nxR_nil
  unfold nxC at h
  unfold nxV nxOk
  by_cases h1 : golfB q g R = true
  · rw [if_pos h1] at h
    by_cases h2 : 16 < q
    · rw [if_neg]; rw [decide_eq_false (show ¬ q ≤ 16 by omega)]; simp
    · rw [if_neg h2] at h
      by_cases h3 : eachB le1 (gmM q.toNat g.toNat R) = true
      · rw [if_pos h3] at h
        by_cases h4 : nxV q g R = []
        · unfold nxV nxOk at h4; exact h4
        · rw [if_neg h4] at h; exact absurd rfl h
      · rw [if_neg]; simp [h3]
  · rw [if_neg]; simp [h1]
theorem nxR_len (q g : Int) (R : List (List Int)) : (nxR q g R).length ≤ 25 := by
  by_cases hV : nxV q g R = []
  · rw [nxR_nil hV]; simp
  have hok : nxOk q g R = true := by
    unfold nxV at hV
    by_cases e : nxOk q g R = true
    · exact e
    · rw [if_neg e] at hV; exact absurd rfl hV
  have hmem : nxR q g R ∈ nxV q g R := by
    unfold nxR
    cases hh : nxV q g R with
    | nil => exact absurd hh hV
    | cons r L => simp
  unfold nxV at hmem
  rw [if_pos hok] at hmem
  unfold nxOk at hok
  rw [Bool.and_eq_true] at hok
  obtain ⟨n, gN, c, rfl, rfl, q0, q1, q2, q3, q4, q5, q6, q7⟩ := golfB_at hok.1
  rw [Int.toNat_natCast, Int.toNat_natCast] at hmem
  have := (ordB_iff _ _).1 (nxt_of (by omega) hmem).ord
  omega
end Go.Abs
end

section
namespace Go.Abs
theorem fgR_len (q g k : Int) : (fgR q g k).length ≤ 12 ∧ ∀ j, j < (fgR q g k).length → ((fgR q g k).getD j []).length ≤ 25 := by
  unfold fgR
  cases hV : fgV q g k with
  | none => exact ⟨by simp, fun j hj => by simp at hj⟩
  | some X =>
    have hC : fgC q g k = 0 := by
      unfold fgC
      have hB : fgB q g k = true := by
        unfold fgV at hV
        by_cases h : fgB q g k = true ∧ k ≤ Int.tdiv (q - 1) (g - 1)
        · exact h.1
        · rw [if_neg h] at hV; cases hV
      rw [if_pos hB, hV]
    have h := fg_social hC
    have e : fgR q g k = X := by unfold fgR; rw [hV]; rfl
    rw [e] at h
    have hs := h.1
    unfold socG at hs
    rw [Bool.and_eq_true] at hs
    obtain ⟨n, gN, c, e1, e2, q0, q1, q2, q3, q4, q5, q6, q7⟩ := golfB_at hs.1
    refine ⟨q6, fun j hj => ?_⟩
    have := (ordB_iff _ _).1 (q7 j hj)
    show (X.getD j []).length ≤ 25
    omega
theorem grdL_len (k : Nat) (hk : k ≤ 5) (m : Nat) : ∀ j, j < (grdL k m).length → ((grdL k m).getD j []).length ≤ 625 := by
  intro j hj
  rw [grdL_length] at hj
  have e : (grdL k m).getD j [] = grA k j (k * k) := by
    unfold grdL
    rw [List.getD_eq_getElem?_getD, List.getElem?_map, List.getElem?_range hj]
    rfl
  rw [e]
  have h1 := (grA_ok (k := k) (i := j) (k * k) (Nat.le_refl _)).2
  have h2 : k * k ≤ 5 * 5 := Nat.mul_le_mul hk hk
  have h3 : k * k * (k * k) ≤ (5 * 5) * (5 * 5) := Nat.mul_le_mul h2 h2
  omega
end Go.Abs
end

section
set_option maxRecDepth 100000
set_option maxHeartbeats 4000000
namespace Go.Proofs.YtollphjompimjaaGreat.A
open Go Go.Abs Go.RowKit
theorem law_Golf_c (cv : Value) (nb : Nat) (H : AH) (hc : CodeOk H cv nb) :
    ACalls Tryz.prog 3 [cv] H (fun v _ => v = .bool true ∧ True) := by
  refine ACalls.wf (by kernel_rfl) fun hs => acalls_of_awp [.tmp 2] Tryz.func3 (by kernel_rfl) rfl rfl (Nat.le_of_ble_eq_true rfl) (by kernel_rfl) ?_
  have hone := hc.one
  try simp (disch := first | omega | (simp only [L3] <;> omega)) only [Sall,evalOp,init,binA_s,binE,binI,unE,convE,okNil,builtE,gv,TD.isAgg,resV,↓reduceIte,Nat.reduceEqDiff,reduceCtorEq,Nat.reduceAdd,Nat.reduceMul,Nat.reduceLeDiff,quietOp,blindOp,Int.reduceEq,Int.reduceLT,Int.reduceLE,Nat.reduceLT,tiA,tiXA, true_and]
  refine (big_c cv nb H hc).to ?_
  refine Holds.mp ?_
  by_cases hbig : 4096 < (nb : Int)
  · have e : decide (4096 < (nb : Int)) = true := decide_eq_true hbig
    try simp (disch := first | omega | (simp only [L3] <;> omega)) only [Sall,evalOp,init,binA_s,binE,binI,unE,convE,okNil,builtE,gv,TD.isAgg,resV,↓reduceIte,Nat.reduceEqDiff,reduceCtorEq,Nat.reduceAdd,Nat.reduceMul,Nat.reduceLeDiff,quietOp,blindOp,Int.reduceEq,Int.reduceLT,Int.reduceLE,Nat.reduceLT,tiA,tiXA, e]
  have e : decide (4096 < (nb : Int)) = false := decide_eq_false hbig
  have hnb : nb ≤ 4611686018427387904 := by omega
  try simp (disch := first | omega | (simp only [L3] <;> omega)) only [Sall,evalOp,init,binA_s,binE,binI,unE,convE,okNil,builtE,gv,TD.isAgg,resV,↓reduceIte,Nat.reduceEqDiff,reduceCtorEq,Nat.reduceAdd,Nat.reduceMul,Nat.reduceLeDiff,quietOp,blindOp,Int.reduceEq,Int.reduceLT,Int.reduceLE,Nat.reduceLT,tiA,tiXA, e, hone]
  refine (drawNextGolf_c cv nb H hnb hc).ex ?_
  rintro ⟨⟨q, g⟩, x⟩ H1 ⟨R, hq, hg, hR, _, ⟨ws, hRR⟩, o1⟩
  dsimp only at hq hg hRR
  have hx := (hRR H1 fun i r _ h => h).rg.one
  have hl1 : R.length ≤ 4194304 := by omega
  have hl2 : ∀ r ∈ R, r.length ≤ 4194304 := fun r hr => by have := hR.2 r hr; omega
  refine Holds.mp ?_
  try simp (disch := first | omega | (simp only [L3] <;> omega)) only [Sall,evalOp,init,binA_s,binE,binI,unE,convE,okNil,builtE,gv,TD.isAgg,resV,↓reduceIte,Nat.reduceEqDiff,reduceCtorEq,Nat.reduceAdd,Nat.reduceMul,Nat.reduceLeDiff,quietOp,blindOp,Int.reduceEq,Int.reduceLT,Int.reduceLE,Nat.reduceLT,tiA,tiXA, hx]
  have o2 := ((o1.push ⟨26, true, [.int .i64 0, .int .i64 0, .slice none 0 0]⟩).putRow 0 rfl (cs' := [.int .i64 q, .int .i64 g, x]))
  obtain ⟨ei, eei⟩ : ∃ ei, ei = H1.next := ⟨_, rfl⟩
  rw [← eei] at o2 ⊢
  have keep : ∀ i r, H1.row i = some r → ((H1.push ⟨26, true, [.int .i64 0, .int .i64 0, .slice none 0 0]⟩).setCells ei [.int .i64 q, .int .i64 g, x]).row i = some r := fun i r hr => by
    have := o1.sc _ _ hr
    rw [AH.setCells_row, if_neg (by omega), AH.push_row, if_neg (by omega)]; exact hr
  have o2 : Ow H ((H1.push ⟨26, true, [.int .i64 0, .int .i64 0, .slice none 0 0]⟩).setCells ei [.int .i64 q, .int .i64 g, x]) [.row ei ⟨26, true, [.int .i64 q, .int .i64 g, x]⟩] := o2
  generalize (H1.push ⟨26, true, [.int .i64 0, .int .i64 0, .slice none 0 0]⟩).setCells ei [.int .i64 q, .int .i64 g, x] = H2 at o2 keep ⊢
  have g3 := (o2.rowAt 0 rfl).1
  have rcx := hRR H2 fun i r _ h => keep i r h
  have rx := rcx.rg
  have sc2 := o2.sc
  have hc2 := hc.up (o2.old hs)
  clear hRR keep o2 o1 hs hc
  have kT := nxR_len q g R
  refine ACalls.ex (g := fun u => .tuple #[u, .int .i64 (nxC q g R)]) (NextGolfRound_c q g x R H2 rx hl1 hl2) ?_
  rintro v4 H3 o3
  have hv4 := o3.one 0 rfl
  have g3' := o3.old sc2 _ _ g3
  refine Holds.mp ?_
  try simp (disch := first | omega | (simp only [L3] <;> omega)) only [Sall,evalOp,init,binA_s,binE,binI,unE,convE,okNil,builtE,gv,TD.isAgg,resV,↓reduceIte,Nat.reduceEqDiff,reduceCtorEq,Nat.reduceAdd,Nat.reduceMul,Nat.reduceLeDiff,quietOp,blindOp,Int.reduceEq,Int.reduceLT,Int.reduceLE,Nat.reduceLT,tiA,tiXA, hv4, g3', hx]
  refine ACalls.ex (g := fun u => .tuple #[u, .int .i64 (nxC q g R)]) (specNextGolfRound_c q g x R H3 (rx.same (o3.old sc2)).rd2 hl1 hl2) ?_
  rintro v6 H4 o4
  have o4 := o3.call o4
  have hv6 := (o4.sees 1 rfl).rd.one
  have g3' := o4.old sc2 _ _ g3
  refine Holds.mp ?_
  try simp (disch := first | omega | (simp only [L3] <;> omega)) only [Sall,evalOp,init,binA_s,binE,binI,unE,convE,okNil,builtE,gv,TD.isAgg,resV,↓reduceIte,Nat.reduceEqDiff,reduceCtorEq,Nat.reduceAdd,Nat.reduceMul,Nat.reduceLeDiff,quietOp,blindOp,Int.reduceEq,Int.reduceLT,Int.reduceLE,Nat.reduceLT,tiA,tiXA, hv6, bne_self_eq_false]
  refine (likeInts_c v4 v6 _ (nxR q g R) H4 (by omega) (o4.rd 0 rfl) (o4.sees 1 rfl).rd).to ?_
  refine Holds.mp ?_
  try simp (disch := first | omega | (simp only [L3] <;> omega)) only [Sall,evalOp,init,binA_s,binE,binI,unE,convE,okNil,builtE,gv,TD.isAgg,resV,↓reduceIte,Nat.reduceEqDiff,reduceCtorEq,Nat.reduceAdd,Nat.reduceMul,Nat.reduceLeDiff,quietOp,blindOp,Int.reduceEq,Int.reduceLT,Int.reduceLE,Nat.reduceLT,tiA,tiXA, g3', hx, Bool.not_true]
  have o4 := o4.only 0 rfl
  have rx4 := rx.same (o4.old sc2)
  refine (IsSocial_c q g x R H4 rx4 hl1 hl2).to ?_
  refine Holds.mp ?_
  try simp (disch := first | omega | (simp only [L3] <;> omega)) only [Sall,evalOp,init,binA_s,binE,binI,unE,convE,okNil,builtE,gv,TD.isAgg,resV,↓reduceIte,Nat.reduceEqDiff,reduceCtorEq,Nat.reduceAdd,Nat.reduceMul,Nat.reduceLeDiff,quietOp,blindOp,Int.reduceEq,Int.reduceLT,Int.reduceLE,Nat.reduceLT,tiA,tiXA, g3', hx]
  refine (specIsSocial_c q g x R H4 rx4.rd2 hl1 hl2).to ?_
  refine Holds.mp ?_
  have eS : (!(socG q g R == socG q g R)) = false := by simp
  try simp (disch := first | omega | (simp only [L3] <;> omega)) only [Sall,evalOp,init,binA_s,binE,binI,unE,convE,okNil,builtE,gv,TD.isAgg,resV,↓reduceIte,Nat.reduceEqDiff,reduceCtorEq,Nat.reduceAdd,Nat.reduceMul,Nat.reduceLeDiff,quietOp,blindOp,Int.reduceEq,Int.reduceLT,Int.reduceLE,Nat.reduceLT,tiA,tiXA, bne_self_eq_false, eS, g3', hx]
  refine (IsFull_c q g x R H4 rx4 hl1 hl2).to ?_
  refine Holds.mp ?_
  try simp (disch := first | omega | (simp only [L3] <;> omega)) only [Sall,evalOp,init,binA_s,binE,binI,unE,convE,okNil,builtE,gv,TD.isAgg,resV,↓reduceIte,Nat.reduceEqDiff,reduceCtorEq,Nat.reduceAdd,Nat.reduceMul,Nat.reduceLeDiff,quietOp,blindOp,Int.reduceEq,Int.reduceLT,Int.reduceLE,Nat.reduceLT,tiA,tiXA, g3', hx]
  refine (specIsFull_c q g x R H4 rx4.rd2 hl1 hl2).to ?_
  refine Holds.mp ?_
  have eF : (!(fulG q g R == fulG q g R)) = false := by simp
  try simp (disch := first | omega | (simp only [L3] <;> omega)) only [Sall,evalOp,init,binA_s,binE,binI,unE,convE,okNil,builtE,gv,TD.isAgg,resV,↓reduceIte,Nat.reduceEqDiff,reduceCtorEq,Nat.reduceAdd,Nat.reduceMul,Nat.reduceLeDiff,quietOp,blindOp,Int.reduceEq,Int.reduceLT,Int.reduceLE,Nat.reduceLT,tiA,tiXA, bne_self_eq_false, eF]
  refine (drawGolfBound_c cv nb H4 hnb (hc2.up (o4.old sc2))).ex ?_
  rintro ⟨n0, g0⟩ H5 ⟨hn0, o5⟩
  have o5 := o4.call o5
  refine Holds.mp ?_
  try simp (disch := first | omega | (simp only [L3] <;> omega)) only [Sall,evalOp,init,binA_s,binE,binI,unE,convE,okNil,builtE,gv,TD.isAgg,resV,↓reduceIte,Nat.reduceEqDiff,reduceCtorEq,Nat.reduceAdd,Nat.reduceMul,Nat.reduceLeDiff,quietOp,blindOp,Int.reduceEq,Int.reduceLT,Int.reduceLE,Nat.reduceLT,tiA,tiXA, true_and]
  refine (GolfBound_c n0 g0 (by dsimp only at hn0; omega) H5).to ?_
  refine Holds.mp ?_
  try simp (disch := first | omega | (simp only [L3] <;> omega)) only [Sall,evalOp,init,binA_s,binE,binI,unE,convE,okNil,builtE,gv,TD.isAgg,resV,↓reduceIte,Nat.reduceEqDiff,reduceCtorEq,Nat.reduceAdd,Nat.reduceMul,Nat.reduceLeDiff,quietOp,blindOp,Int.reduceEq,Int.reduceLT,Int.reduceLE,Nat.reduceLT,tiA,tiXA, true_and]
  refine (specGolfBound_c n0 g0 (by dsimp only at hn0; omega) H5).to ?_
  refine Holds.mp ?_
  try simp (disch := first | omega | (simp only [L3] <;> omega)) only [Sall,evalOp,init,binA_s,binE,binI,unE,convE,okNil,builtE,gv,TD.isAgg,resV,↓reduceIte,Nat.reduceEqDiff,reduceCtorEq,Nat.reduceAdd,Nat.reduceMul,Nat.reduceLeDiff,quietOp,blindOp,Int.reduceEq,Int.reduceLT,Int.reduceLE,Nat.reduceLT,tiA,tiXA, bne_self_eq_false]
  refine (drawFirstGolf_c cv nb H5 hnb (hc2.up (o5.old sc2))).ex ?_
  rintro ⟨a, b, c⟩ H6 ⟨⟨ha, hb, hcc⟩, o6⟩
  dsimp only at ha hb hcc
  have o6 := o5.call o6
  refine Holds.mp ?_
  try simp (disch := first | omega | (simp only [L3] <;> omega)) only [Sall,evalOp,init,binA_s,binE,binI,unE,convE,okNil,builtE,gv,TD.isAgg,resV,↓reduceIte,Nat.reduceEqDiff,reduceCtorEq,Nat.reduceAdd,Nat.reduceMul,Nat.reduceLeDiff,quietOp,blindOp,Int.reduceEq,Int.reduceLT,Int.reduceLE,Nat.reduceLT,tiA,tiXA, true_and]
  refine ACalls.ex (g := fun u => .tuple #[.agg #[.int .i64 (fgQ a b c), .int .i64 (fgG a b c), u], .int .i64 (fgC a b c)]) (X := fun u H' => ∃ ws, Ow H6 H' [.see (Rc u ws (fgR a b c))]) ((FirstGolf_c a b c (by omega) (by omega) (by omega) H6).mono fun v H' ⟨u, ws, e, o⟩ => ⟨u, e, ws, o⟩) ?_
  rintro u7 H7 ⟨ws7, o7⟩
  have o7 := o6.call o7
  have hu7 := (o7.sees 1 rfl).rg.one
  refine Holds.mp ?_
  try simp (disch := first | omega | (simp only [L3] <;> omega)) only [Sall,evalOp,init,binA_s,binE,binI,unE,convE,okNil,builtE,gv,TD.isAgg,resV,↓reduceIte,Nat.reduceEqDiff,reduceCtorEq,Nat.reduceAdd,Nat.reduceMul,Nat.reduceLeDiff,quietOp,blindOp,Int.reduceEq,Int.reduceLT,Int.reduceLE,Nat.reduceLT,tiA,tiXA, hu7]
  have o8 := (o7.push ⟨26, true, [.int .i64 0, .int .i64 0, .slice none 0 0]⟩).putRow 2 rfl (cs' := [.int .i64 (fgQ a b c), .int .i64 (fgG a b c), u7])
  obtain ⟨fi, efi⟩ : ∃ fi, fi = H7.next := ⟨_, rfl⟩
  rw [← efi] at o8 ⊢
  generalize (H7.push ⟨26, true, [.int .i64 0, .int .i64 0, .slice none 0 0]⟩).setCells fi [.int .i64 (fgQ a b c), .int .i64 (fgG a b c), u7] = H8 at o8 ⊢
  refine ACalls.ex (g := fun u => .tuple #[.agg #[.int .i64 (fgQ a b c), .int .i64 (fgG a b c), u], .int .i64 (fgC a b c)]) (X := fun u H' => ∃ ws, Ow H8 H' [.see (Rc u ws (fgR a b c))]) ((specFirstGolf_c a b c (by omega) (by omega) (by omega) H8).mono fun v H' ⟨u, ws, e, o⟩ => ⟨u, e, ws, o⟩) ?_
  rintro u9 H9 ⟨ws9, o9⟩
  have o9 := o8.call o9
  have hu9 := (o9.sees 3 rfl).rg.one
  refine Holds.mp ?_
  try simp (disch := first | omega | (simp only [L3] <;> omega)) only [Sall,evalOp,init,binA_s,binE,binI,unE,convE,okNil,builtE,gv,TD.isAgg,resV,↓reduceIte,Nat.reduceEqDiff,reduceCtorEq,Nat.reduceAdd,Nat.reduceMul,Nat.reduceLeDiff,quietOp,blindOp,Int.reduceEq,Int.reduceLT,Int.reduceLE,Nat.reduceLT,tiA,tiXA, hu9]
  have o10 := (o9.push ⟨26, true, [.int .i64 0, .int .i64 0, .slice none 0 0]⟩).putRow 4 rfl (cs' := [.int .i64 (fgQ a b c), .int .i64 (fgG a b c), u9])
  obtain ⟨di, edi⟩ : ∃ di, di = H9.next := ⟨_, rfl⟩
  rw [← edi] at o10 ⊢
  generalize (H9.push ⟨26, true, [.int .i64 0, .int .i64 0, .slice none 0 0]⟩).setCells di [.int .i64 (fgQ a b c), .int .i64 (fgG a b c), u9] = H10 at o10 ⊢
  have g10f := (o10.rowAt 2 rfl).1
  have g10d := (o10.rowAt 4 rfl).1
  have kX := fgR_len a b c
  try simp (disch := first | omega | (simp only [L3] <;> omega)) only [Sall,evalOp,init,binA_s,binE,binI,unE,convE,okNil,builtE,gv,TD.isAgg,resV,↓reduceIte,Nat.reduceEqDiff,reduceCtorEq,Nat.reduceAdd,Nat.reduceMul,Nat.reduceLeDiff,quietOp,blindOp,Int.reduceEq,Int.reduceLT,Int.reduceLE,Nat.reduceLT,tiA,tiXA, bne_self_eq_false, g10f, g10d, hu7, hu9]
  refine (golf9G_c (fgQ a b c) (fgG a b c) u7 u9 (fgR a b c) H10 (by omega) (fun j hj => by have := kX.2 j hj; omega) (o10.sees 1 rfl).rg.rd2 (o10.sees 3 rfl).rg.rd2).to ?_
  refine Holds.mp ?_
  try simp (disch := first | omega | (simp only [L3] <;> omega)) only [Sall,evalOp,init,binA_s,binE,binI,unE,convE,okNil,builtE,gv,TD.isAgg,resV,↓reduceIte,Nat.reduceEqDiff,reduceCtorEq,Nat.reduceAdd,Nat.reduceMul,Nat.reduceLeDiff,quietOp,blindOp,Int.reduceEq,Int.reduceLT,Int.reduceLE,Nat.reduceLT,tiA,tiXA, Bool.not_true]
  have o10 := o10.pick3 0 1 2 rfl rfl rfl (by omega) (by omega) (by omega)
  clear g10d
  refine (drawGridOf_c cv nb H10 hnb (hc2.up (o10.old sc2))).ex ?_
  rintro k H11 ⟨hk, o11⟩
  have o11 := o10.call o11
  refine Holds.mp ?_
  try simp (disch := first | omega | (simp only [L3] <;> omega)) only [Sall,evalOp,init,binA_s,binE,binI,unE,convE,okNil,builtE,gv,TD.isAgg,resV,↓reduceIte,Nat.reduceEqDiff,reduceCtorEq,Nat.reduceAdd,Nat.reduceMul,Nat.reduceLeDiff,quietOp,blindOp,Int.reduceEq,Int.reduceLT,Int.reduceLE,Nat.reduceLT,tiA,tiXA, true_and]
  refine ACalls.ex (g := fun u => .tuple #[.agg #[.int .i64 (gridQ k), .int .i64 (gridG k), u], .int .i64 (gridC k)]) (GridOf_c k H11) ?_
  rintro u12 H12 o12
  have o12 := o11.call o12
  have hu12 := (o12.rd2 3 rfl).one
  refine Holds.mp ?_
  try simp (disch := first | omega | (simp only [L3] <;> omega)) only [Sall,evalOp,init,binA_s,binE,binI,unE,convE,okNil,builtE,gv,TD.isAgg,resV,↓reduceIte,Nat.reduceEqDiff,reduceCtorEq,Nat.reduceAdd,Nat.reduceMul,Nat.reduceLeDiff,quietOp,blindOp,Int.reduceEq,Int.reduceLT,Int.reduceLE,Nat.reduceLT,tiA,tiXA, hu12]
  have o13 := (o12.push ⟨26, true, [.int .i64 0, .int .i64 0, .slice none 0 0]⟩).putRow 4 rfl (cs' := [.int .i64 (gridQ k), .int .i64 (gridG k), u12])
  obtain ⟨gi, egi⟩ : ∃ gi, gi = H12.next := ⟨_, rfl⟩
  rw [← egi] at o13 ⊢
  generalize (H12.push ⟨26, true, [.int .i64 0, .int .i64 0, .slice none 0 0]⟩).setCells gi [.int .i64 (gridQ k), .int .i64 (gridG k), u12] = H13 at o13 ⊢
  refine ACalls.ex (g := fun u => .tuple #[.agg #[.int .i64 (gridQ k), .int .i64 (gridG k), u], .int .i64 (gridC k)]) (specGridOf_c k H13) ?_
  rintro u14 H14 o14
  have o14 := o13.call o14
  have hu14 := (o14.rd2 5 rfl).one
  refine Holds.mp ?_
  try simp (disch := first | omega | (simp only [L3] <;> omega)) only [Sall,evalOp,init,binA_s,binE,binI,unE,convE,okNil,builtE,gv,TD.isAgg,resV,↓reduceIte,Nat.reduceEqDiff,reduceCtorEq,Nat.reduceAdd,Nat.reduceMul,Nat.reduceLeDiff,quietOp,blindOp,Int.reduceEq,Int.reduceLT,Int.reduceLE,Nat.reduceLT,tiA,tiXA, hu14]
  have o15 := (o14.push ⟨26, true, [.int .i64 0, .int .i64 0, .slice none 0 0]⟩).putRow 6 rfl (cs' := [.int .i64 (gridQ k), .int .i64 (gridG k), u14])
  obtain ⟨hi, ehi⟩ : ∃ hi, hi = H14.next := ⟨_, rfl⟩
  rw [← ehi] at o15 ⊢
  generalize (H14.push ⟨26, true, [.int .i64 0, .int .i64 0, .slice none 0 0]⟩).setCells hi [.int .i64 (gridQ k), .int .i64 (gridG k), u14] = H15 at o15 ⊢
  have g15g := (o15.rowAt 4 rfl).1
  have g15h := (o15.rowAt 6 rfl).1
  have kG : (gridL k).length ≤ 6 ∧ ∀ j, j < (gridL k).length → ((gridL k).getD j []).length ≤ 625 := by
    unfold gridL
    split
    · rename_i hk3
      have h5 : k.toNat ≤ 5 := by omega
      exact ⟨by rw [grdL_length]; omega, grdL_len k.toNat h5 _⟩
    · exact ⟨by simp, fun j hj => by simp at hj⟩
  try simp (disch := first | omega | (simp only [L3] <;> omega)) only [Sall,evalOp,init,binA_s,binE,binI,unE,convE,okNil,builtE,gv,TD.isAgg,resV,↓reduceIte,Nat.reduceEqDiff,reduceCtorEq,Nat.reduceAdd,Nat.reduceMul,Nat.reduceLeDiff,quietOp,blindOp,Int.reduceEq,Int.reduceLT,Int.reduceLE,Nat.reduceLT,tiA,tiXA, bne_self_eq_false, g15g, g15h, hu12, hu14]
  refine (golf9G_c (gridQ k) (gridG k) u12 u14 (gridL k) H15 (by omega) (fun j hj => by have := kG.2 j hj; omega) (o15.rd2 3 rfl) (o15.rd2 5 rfl)).to ?_
  refine Holds.mp ?_
  try simp (disch := first | omega | (simp only [L3] <;> omega)) only [Sall,evalOp,init,binA_s,binE,binI,unE,convE,okNil,builtE,gv,TD.isAgg,resV,↓reduceIte,Nat.reduceEqDiff,reduceCtorEq,Nat.reduceAdd,Nat.reduceMul,Nat.reduceLeDiff,quietOp,blindOp,Int.reduceEq,Int.reduceLT,Int.reduceLE,Nat.reduceLT,tiA,tiXA, Bool.not_true]
  have gz3 := o15.old sc2 _ _ g3
  have gzf := (o15.rowAt 2 rfl).1
  have rgz := o15.rg 3 rfl
  have ruz := (o15.sees 1 rfl).rg
  have r4z := o15.rs 0 rfl
  have rcz := rcx.same (o15.old sc2)
  have scz := o15.sc
  clear g15h g10f o15 o14 o13 o12 o11 o10 o9 o8 o7 o6 o5 o4 o3 g3' rx rx4 g3 hc2 rcx
  have bz : ((0 : Int) != 0) = false := rfl
  refine condC_cut (fun t H' => H' = H15 ∧ t 3 = .pointer (some ⟨ei, 0, none⟩) ∧ t 4 = v4 ∧ t 5 = .int .i64 (nxC q g R) ∧ t 8 = .bool (socG q g R) ∧ t 9 = .int .i64 (glC q g R true) ∧ t 12 = .bool (fulG q g R) ∧ t 13 = .int .i64 (glC q g R true) ∧ t 22 = .int .i64 a ∧ t 24 = .int .i64 c ∧ t 25 = .pointer (some ⟨fi, 0, none⟩) ∧ t 26 = .int .i64 (fgC a b c)) (fun hb0 => ?_) (fun hb0 => ?_) ?_
  · exact ⟨rfl, rfl, rfl, rfl, rfl, rfl, rfl, rfl, rfl, rfl, rfl, rfl⟩
  · have hk3 : k = 2 ∨ k = 3 ∨ k = 5 := by
      have h0 : gridC k = 0 := by simpa using hb0
      unfold gridC at h0
      split at h0
      · assumption
      · cases h0
    have eQ : gridQ k = k * k := by unfold gridQ; rw [if_pos hk3]
    have eG : gridG k = k := by unfold gridG; rw [if_pos hk3]
    have eL : gridL k = grdL k.toNat (k.toNat + 1) := by unfold gridL; rw [if_pos hk3]
    have hful : fulG (gridQ k) (gridG k) (gridL k) = true := by
      rw [eQ, eG, eL]
      obtain ⟨kN, rfl⟩ : ∃ kN : Nat, k = kN := ⟨k.toNat, by omega⟩
      rw [Int.toNat_natCast]
      exact grid_full (by omega)
    have hcod := glC_ful hful
    have hlen : ((gridL k).length : Int) = k + 1 := by rw [eL, grdL_length]; omega
    have lg := rgz.len
    rw [hlen] at lg
    try simp (disch := first | omega | (simp only [L3] <;> omega)) only [Sall,evalOp,init,binA_s,binE,binI,unE,convE,okNil,builtE,gv,TD.isAgg,resV,↓reduceIte,Nat.reduceEqDiff,reduceCtorEq,Nat.reduceAdd,Nat.reduceMul,Nat.reduceLeDiff,quietOp,blindOp,Int.reduceEq,Int.reduceLT,Int.reduceLE,Nat.reduceLT,tiA,tiXA, g15g, hu12]
    refine (IsFull_c (gridQ k) (gridG k) u12 (gridL k) H15 rgz (by omega) (fun r hr => by obtain ⟨j, hj, rfl⟩ := List.mem_iff_getElem.1 hr; have := kG.2 j hj; rw [List.getD_eq_getElem?_getD, List.getElem?_eq_getElem hj] at this; exact Nat.le_trans this (by omega))).to ?_
    refine Holds.mp ?_
    rw [hful, hcod]
    try simp (disch := first | omega | (simp only [L3] <;> omega)) only [Sall,evalOp,init,binA_s,binE,binI,unE,convE,okNil,builtE,gv,TD.isAgg,resV,↓reduceIte,Nat.reduceEqDiff,reduceCtorEq,Nat.reduceAdd,Nat.reduceMul,Nat.reduceLeDiff,quietOp,blindOp,Int.reduceEq,Int.reduceLT,Int.reduceLE,Nat.reduceLT,tiA,tiXA, bz, Bool.not_true, g15g, hu12, builtE, lg, bne_self_eq_false, w64]
  · rintro t H' ⟨rfl, h3, h4, h5, h8, h9, h12, h13, h22, h24, h25, h26⟩
    clear g15g rgz hu12 hu14 kG
    try simp (disch := first | omega | (simp only [L3] <;> omega)) only [Sall,evalOp,init,binA_s,binE,binI,unE,convE,okNil,builtE,gv,TD.isAgg,resV,↓reduceIte,Nat.reduceEqDiff,reduceCtorEq,Nat.reduceAdd,Nat.reduceMul,Nat.reduceLeDiff,quietOp,blindOp,Int.reduceEq,Int.reduceLT,Int.reduceLE,Nat.reduceLT,tiA,tiXA, h26]
    refine condC_cut (fun t H'' => H'' = H' ∧ t 3 = .pointer (some ⟨ei, 0, none⟩) ∧ t 4 = v4 ∧ t 5 = .int .i64 (nxC q g R) ∧ t 8 = .bool (socG q g R) ∧ t 9 = .int .i64 (glC q g R true) ∧ t 12 = .bool (fulG q g R) ∧ t 13 = .int .i64 (glC q g R true)) (fun hb0 => ?_) (fun hb0 => ?_) ?_
    · exact ⟨rfl, h3, h4, h5, h8, h9, h12, h13⟩
    · have h0 : fgC a b c = 0 := by simpa using hb0
      obtain ⟨f1, f2, f3⟩ := fg_social h0
      have hcod := glC_soc f1
      have lg := ruz.len
      rw [f2] at lg
      try simp (disch := first | omega | (simp only [L3] <;> omega)) only [Sall,evalOp,init,binA_s,binE,binI,unE,convE,okNil,builtE,gv,TD.isAgg,resV,↓reduceIte,Nat.reduceEqDiff,reduceCtorEq,Nat.reduceAdd,Nat.reduceMul,Nat.reduceLeDiff,quietOp,blindOp,Int.reduceEq,Int.reduceLT,Int.reduceLE,Nat.reduceLT,tiA,tiXA, h25, gzf, hu7]
      refine (IsSocial_c (fgQ a b c) (fgG a b c) u7 (fgR a b c) H' ruz (by omega) (fun r hr => by obtain ⟨j, hj, rfl⟩ := List.mem_iff_getElem.1 hr; have := kX.2 j hj; rw [List.getD_eq_getElem?_getD, List.getElem?_eq_getElem hj] at this; exact Nat.le_trans this (by omega))).to ?_
      refine Holds.mp ?_
      rw [f1, hcod]
      try simp (disch := first | omega | (simp only [L3] <;> omega)) only [Sall,evalOp,init,binA_s,binE,binI,unE,convE,okNil,builtE,gv,TD.isAgg,resV,↓reduceIte,Nat.reduceEqDiff,reduceCtorEq,Nat.reduceAdd,Nat.reduceMul,Nat.reduceLeDiff,quietOp,blindOp,Int.reduceEq,Int.reduceLT,Int.reduceLE,Nat.reduceLT,tiA,tiXA, bz, Bool.not_true, h25, gzf, hu7, builtE, lg, h24, h22, f3, bne_self_eq_false, w64]
      exact ⟨h3, h4, h5, h8, h9, h12, h13⟩
    · clear h3 h4 h5 h8 h9 h12 h13 h22 h24 h25 h26
      rintro t H'' ⟨rfl, h3, h4, h5, h8, h9, h12, h13⟩
      clear gzf ruz hu7 hu9
      try simp (disch := first | omega | (simp only [L3] <;> omega)) only [Sall,evalOp,init,binA_s,binE,binI,unE,convE,okNil,builtE,gv,TD.isAgg,resV,↓reduceIte,Nat.reduceEqDiff,reduceCtorEq,Nat.reduceAdd,Nat.reduceMul,Nat.reduceLeDiff,quietOp,blindOp,Int.reduceEq,Int.reduceLT,Int.reduceLE,Nat.reduceLT,tiA,tiXA, h9]
      refine condC_cut (fun t Hn => Hn = H'' ∧ t 3 = .pointer (some ⟨ei, 0, none⟩) ∧ t 4 = v4 ∧ t 5 = .int .i64 (nxC q g R)) (fun hb0 => ?_) (fun hb0 => ?_) ?_
      · exact ⟨rfl, h3, h4, h5⟩
      · have h0 : glC q g R true = 0 := by simpa using hb0
        rw [h0] at h13
        have hB := (glC_yes h0).1
        have hfs : socG q g R = false → fulG q g R = false := fun h => by
          cases hF : fulG q g R with
          | false => rfl
          | true =>
            unfold fulG at hF
            rw [Bool.and_eq_true] at hF
            unfold socG at h
            rw [hF.1, ful_soc (gmM_sq _ _ _) hF.2] at h
            cases h
        cases hS : socG q g R with
        | false =>
          rw [hS] at h8
          rw [hfs hS] at h12
          try simp (disch := first | omega | (simp only [L3] <;> omega)) only [Sall,evalOp,init,binA_s,binE,binI,unE,convE,okNil,builtE,gv,TD.isAgg,resV,↓reduceIte,Nat.reduceEqDiff,reduceCtorEq,Nat.reduceAdd,Nat.reduceMul,Nat.reduceLeDiff,quietOp,blindOp,Int.reduceEq,Int.reduceLT,Int.reduceLE,Nat.reduceLT,tiA,tiXA, h13, bz, h12, h8]
          exact ⟨h3, h4, h5⟩
        | true =>
          rw [hS] at h8
          have hB2 := hB
          obtain ⟨n, gN, cN, rfl, rfl, q0, q1, q2, q3, q4, q5, q6, q7⟩ := golfB_at hB2
          unfold socG at hS
          rw [hB, Bool.true_and, Int.toNat_natCast, Int.toNat_natCast] at hS
          have hbd := soc_bound q1 q0 q2 q4 q6 q7 hS
          have e1 : gbC n gN = 0 := by unfold gbC; rw [if_pos ⟨by omega, by omega⟩]
          have e2 : gbV n gN = Int.tdiv ((n : Int) - 1) ((gN : Int) - 1) := by unfold gbV; rw [if_pos ⟨by omega, by omega⟩]
          have hlx := rcz.rg.len
          have e3 : decide (gbV n gN < (R.length : Int)) = false := decide_eq_false (by rw [e2]; omega)
          generalize fulG n gN R = ff at h12
          have key : ∀ ff, (if (ff : Bool) = true then (!true) else false) = false := fun ff => by cases ff <;> rfl
          cases ff with
          | false =>
            try simp (disch := first | omega | (simp only [L3] <;> omega)) only [Sall,evalOp,init,binA_s,binE,binI,unE,convE,okNil,builtE,gv,TD.isAgg,resV,↓reduceIte,Nat.reduceEqDiff,reduceCtorEq,Nat.reduceAdd,Nat.reduceMul,Nat.reduceLeDiff,quietOp,blindOp,Int.reduceEq,Int.reduceLT,Int.reduceLE,Nat.reduceLT,tiA,tiXA, h13, bz, h12, h8, h3, gz3, hx]
            refine (GolfBound_c n gN (by omega) H'').to ?_
            refine Holds.mp ?_
            rw [e1]
            try simp (disch := first | omega | (simp only [L3] <;> omega)) only [Sall,evalOp,init,binA_s,binE,binI,unE,convE,okNil,builtE,gv,TD.isAgg,resV,↓reduceIte,Nat.reduceEqDiff,reduceCtorEq,Nat.reduceAdd,Nat.reduceMul,Nat.reduceLeDiff,quietOp,blindOp,Int.reduceEq,Int.reduceLT,Int.reduceLE,Nat.reduceLT,tiA,tiXA, bz, h3, gz3, hx, builtE, hlx, e3]
            exact ⟨h4, h5⟩
          | true =>
            try simp (disch := first | omega | (simp only [L3] <;> omega)) only [Sall,evalOp,init,binA_s,binE,binI,unE,convE,okNil,builtE,gv,TD.isAgg,resV,↓reduceIte,Nat.reduceEqDiff,reduceCtorEq,Nat.reduceAdd,Nat.reduceMul,Nat.reduceLeDiff,quietOp,blindOp,Int.reduceEq,Int.reduceLT,Int.reduceLE,Nat.reduceLT,tiA,tiXA, h13, bz, h12, h8, h3, gz3, hx, Bool.not_true]
            refine (GolfBound_c n gN (by omega) H'').to ?_
            refine Holds.mp ?_
            rw [e1]
            try simp (disch := first | omega | (simp only [L3] <;> omega)) only [Sall,evalOp,init,binA_s,binE,binI,unE,convE,okNil,builtE,gv,TD.isAgg,resV,↓reduceIte,Nat.reduceEqDiff,reduceCtorEq,Nat.reduceAdd,Nat.reduceMul,Nat.reduceLeDiff,quietOp,blindOp,Int.reduceEq,Int.reduceLT,Int.reduceLE,Nat.reduceLT,tiA,tiXA, bz, h3, gz3, hx, builtE, hlx, e3]
            exact ⟨h4, h5⟩
      · clear h3 h4 h5 h8 h9 h12 h13
        rintro t Hn ⟨rfl, h3, h4, h5⟩
        by_cases h1 : nxC q g R = 0
        rotate_left
        · have b1 : (nxC q g R != 0) = true := bne_iff_ne.2 h1
          have hn := nxR_no h1
          rw [hn] at r4z
          have l4 := r4z.rd.len
          try simp (disch := first | omega | (simp only [L3] <;> omega)) only [Sall,evalOp,init,binA_s,binE,binI,unE,convE,okNil,builtE,gv,TD.isAgg,resV,↓reduceIte,Nat.reduceEqDiff,reduceCtorEq,Nat.reduceAdd,Nat.reduceMul,Nat.reduceLeDiff,quietOp,blindOp,Int.reduceEq,Int.reduceLT,Int.reduceLE,Nat.reduceLT,tiA,tiXA, h5, b1, h4, builtE, l4, List.length_nil, Int.natCast_zero, beq_self_eq_true]
        have b1 : (nxC q g R != 0) = false := by rw [h1]; rfl
        obtain ⟨f1, f2⟩ := nx_facts h1 hR.1
        have hlx := rcz.rg.len
        have e12 : decide ((12 : Int) ≤ (R.length : Int)) = false := decide_eq_false (by omega)
        obtain ⟨T', eT⟩ : ∃ T', T' = nxR q g R := ⟨_, rfl⟩
        rw [← eT] at f1 f2 kT r4z
        have h41 := r4z.rd.one
        have hq1 := cells_of_one h41
        have hq2 := noTuple_of_one h41
        have zz : zeros 1 [.slice none 0 0] = [.slice none 0 0] := rfl
        have hwl : ws.length = R.length := rcz.1.1
        have hei : ei < Hn.next := scz _ _ gz3
        try simp (disch := first | omega | (simp only [L3] <;> omega)) only [Sall,evalOp,init,binA_s,binE,binI,unE,convE,okNil,builtE,gv,TD.isAgg,resV,↓reduceIte,Nat.reduceEqDiff,reduceCtorEq,Nat.reduceAdd,Nat.reduceMul,Nat.reduceLeDiff,quietOp,blindOp,Int.reduceEq,Int.reduceLT,Int.reduceLE,Nat.reduceLT,tiA,tiXA, h5, b1, h3, gz3, hx, builtE, hlx, e12]
        refine awp_cutQ (fun t H5 => ∃ oi u, t 40 = .pointer (some ⟨oi, 0, none⟩) ∧ t 3 = .pointer (some ⟨ei, 0, none⟩) ∧ t 4 = v4 ∧ Ow Hn H5 [.sl 1 28 u (ws.length + 1) (ws ++ [v4]), .row oi ⟨26, true, [.int .i64 q, .int .i64 g, u]⟩]) ?_ ?_
        · refine draw_poolN (fun j => j < Hn.next) [0, 1, 2, 3, 5, 6, 8] [4, 7, 10] [9, 12] [(10, 9)] [11] (OT.run [13] .nil) (by kernel_rfl) (by kernel_rfl) (Nat.le_of_ble_eq_true rfl) (MoJ Hn q g x v4 ws (.pointer (some ⟨ei, 0, none⟩)) v4) (fun fs t Hx => MoJ Hn q g x v4 ws (.pointer (some ⟨ei, 0, none⟩)) v4 [] fs t Hx ∧ (t 274).oneCell' = true ∧ t 275 = .agg #[.int .i64 q, .int .i64 g, t 274]) ⟨?_, ?_, ?_, ?_, ?_⟩ ?_
          · intro c' cs fs t H3 hnd hJ
            rcases hJ.hcs with e | e | e | e
            · injection e with e1 e2
              subst e1; subst e2
              have sc3 : Sc H3 := by obtain ⟨_, _, _, o, _⟩ := hJ.ow; exact o.sc
              try simp (disch := first | omega | (simp only [L3] <;> omega)) only [Sall,evalOp,init,binA_s,binE,binI,unE,convE,okNil,builtE,gv,TD.isAgg,resV,↓reduceIte,Nat.reduceEqDiff,reduceCtorEq,Nat.reduceAdd,Nat.reduceMul,Nat.reduceLeDiff,quietOp,blindOp,Int.reduceEq,Int.reduceLT,Int.reduceLE,Nat.reduceLT,tiA,tiXA, awpTS_run_nil, awpTS_run_cons, awpTS_nil, awpTS_one, awpIS_nil, awpIS_cons, stepIS_op, loadOk, zeros_zero]
              exact ⟨.inr (.inr (LE.les (sc3.le _))), hJ.call4⟩
            · injection e with e1 e2
              subst e1; subst e2
              obtain ⟨a, b, cc, o, k1, k2, k3, k4, k5⟩ := hJ.ow
              obtain rfl := k1 rfl
              have t34 := hJ.t270
              have hv3 := rcz.same (o.old scz)
              try simp (disch := first | omega | (simp only [L3] <;> omega)) only [Sall,evalOp,init,binA_s,binE,binI,unE,convE,okNil,builtE,gv,TD.isAgg,resV,↓reduceIte,Nat.reduceEqDiff,reduceCtorEq,Nat.reduceAdd,Nat.reduceMul,Nat.reduceLeDiff,quietOp,blindOp,Int.reduceEq,Int.reduceLT,Int.reduceLE,Nat.reduceLT,tiA,tiXA, awpTS_run_nil, awpTS_run_cons, awpTS_nil, awpTS_one, awpIS_nil, awpIS_cons, stepIS_op, loadOk, t34]
              refine o.appWC 0 rfl hv3 rfl (by decide) (by omega) ?_
              intro w H4 n4 o4
              rw [Nat.zero_add, List.nil_append] at o4
              exact ⟨.inr (.inr (les_low o o4 n4)), .inr (.inr (.inl rfl)), hJ.hfs, hJ.t265, hJ.t267, hJ.t270, hJ.t272, hJ.t3, hJ.t4, _, b, cc, o4, fun e => (by cases e), fun _ => rfl, fun e => (by cases e), k4, k5⟩
            · injection e with e1 e2
              subst e1; subst e2
              obtain ⟨a, b, cc, o, k1, k2, k3, k4, k5⟩ := hJ.ow
              obtain rfl := k2 rfl
              obtain rfl := k4 (fun h => hnd 9 h (by simp))
              obtain ⟨S1, hS1, hp1⟩ := o.at (k := 1) rfl
              have hrx : Rc (t 273) [v4] [T'] H3 := rc_of_sl (RowsC.snoc (RowsC.nil H3) (r4z.same (o.old scz))) hp1
              try simp (disch := first | omega | (simp only [L3] <;> omega)) only [Sall,evalOp,init,binA_s,binE,binI,unE,convE,okNil,builtE,gv,TD.isAgg,resV,↓reduceIte,Nat.reduceEqDiff,reduceCtorEq,Nat.reduceAdd,Nat.reduceMul,Nat.reduceLeDiff,quietOp,blindOp,Int.reduceEq,Int.reduceLT,Int.reduceLE,Nat.reduceLT,tiA,tiXA, awpTS_run_nil, awpTS_run_cons, awpTS_nil, awpTS_one, awpIS_nil, awpIS_cons, stepIS_op, loadOk]
              refine o.appWC 0 rfl hrx rfl (by decide) (by simp; omega) ?_
              intro w H4 n4 o4
              exact ⟨.inr (.inr (les_low o o4 n4)), .inr (.inr (.inr rfl)), hJ.hfs, hJ.t265, hJ.t267, hJ.t270, hJ.t272, hJ.t3, hJ.t4, _, _, cc, o4, fun e => (by cases e), fun e => (by cases e), fun _ => rfl, fun _ => rfl, k5⟩
            · cases e
          · intro a cs fs t H3 ha hJ
            have sc3 : Sc H3 := by obtain ⟨_, _, _, o, _⟩ := hJ.ow; exact o.sc
            rcases hJ.hfs a ha with rfl | rfl
            · have t39 := hJ.t272
              try simp (disch := first | omega | (simp only [L3] <;> omega)) only [Sall,evalOp,init,binA_s,binE,binI,unE,convE,okNil,builtE,gv,TD.isAgg,resV,↓reduceIte,Nat.reduceEqDiff,reduceCtorEq,Nat.reduceAdd,Nat.reduceMul,Nat.reduceLeDiff,quietOp,blindOp,Int.reduceEq,Int.reduceLT,Int.reduceLE,Nat.reduceLT,tiA,tiXA, awpTS_run_nil, awpTS_run_cons, awpTS_nil, awpTS_one, awpIS_nil, awpIS_cons, stepIS_op, loadOk, t39, h41, hq1, hq2, zz]
              exact ⟨.inr (.inr (LE.les (sc3.le _))), hJ.free9⟩
            · try simp (disch := first | omega | (simp only [L3] <;> omega)) only [Sall,evalOp,init,binA_s,binE,binI,unE,convE,okNil,builtE,gv,TD.isAgg,resV,↓reduceIte,Nat.reduceEqDiff,reduceCtorEq,Nat.reduceAdd,Nat.reduceMul,Nat.reduceLeDiff,quietOp,blindOp,Int.reduceEq,Int.reduceLT,Int.reduceLE,Nat.reduceLT,tiA,tiXA, awpTS_run_nil, awpTS_run_cons, awpTS_nil, awpTS_one, awpIS_nil, awpIS_cons, stepIS_op, loadOk]
              exact ⟨.inr (.inr (LE.les (sc3.le _))), hJ.free12⟩
          · intro fs t H3 hJ
            obtain ⟨a, b, cc, o, k1, k2, k3, k4, k5⟩ := hJ.ow
            obtain rfl := k3 rfl
            have h274 := o.one 0 rfl
            have hq41 := cells_of_one h274
            have hn41 := noTuple_of_one h274
            have t265 := hJ.t265
            have t267 := hJ.t267
            try simp (disch := first | omega | (simp only [L3] <;> omega)) only [Sall,evalOp,init,binA_s,binE,binI,unE,convE,okNil,builtE,gv,TD.isAgg,resV,↓reduceIte,Nat.reduceEqDiff,reduceCtorEq,Nat.reduceAdd,Nat.reduceMul,Nat.reduceLeDiff,quietOp,blindOp,Int.reduceEq,Int.reduceLT,Int.reduceLE,Nat.reduceLT,tiA,tiXA, awpTS_run_nil, awpTS_run_cons, awpTS_nil, awpTS_one, awpIS_nil, awpIS_cons, stepIS_op, loadOk, t265, t267, h274, hq41, hn41]
            exact ⟨.inr (.inr (.inr rfl)), hJ.hfs, hJ.t265, hJ.t267, hJ.t270, hJ.t272, hJ.t3, hJ.t4, hJ.ow⟩
          · rintro a fs t H3 ha ⟨hJ, k1, k2⟩
            have sc3 : Sc H3 := by obtain ⟨_, _, _, o, _⟩ := hJ.ow; exact o.sc
            rcases hJ.hfs a ha with rfl | rfl
            · have t39 := hJ.t272
              try simp (disch := first | omega | (simp only [L3] <;> omega)) only [Sall,evalOp,init,binA_s,binE,binI,unE,convE,okNil,builtE,gv,TD.isAgg,resV,↓reduceIte,Nat.reduceEqDiff,reduceCtorEq,Nat.reduceAdd,Nat.reduceMul,Nat.reduceLeDiff,quietOp,blindOp,Int.reduceEq,Int.reduceLT,Int.reduceLE,Nat.reduceLT,tiA,tiXA, awpTS_run_nil, awpTS_run_cons, awpTS_nil, awpTS_one, awpIS_nil, awpIS_cons, stepIS_op, loadOk, t39, h41, hq1, hq2, zz]
              exact ⟨.inr (.inr (LE.les (sc3.le _))), hJ.free9, k1, k2⟩
            · try simp (disch := first | omega | (simp only [L3] <;> omega)) only [Sall,evalOp,init,binA_s,binE,binI,unE,convE,okNil,builtE,gv,TD.isAgg,resV,↓reduceIte,Nat.reduceEqDiff,reduceCtorEq,Nat.reduceAdd,Nat.reduceMul,Nat.reduceLeDiff,quietOp,blindOp,Int.reduceEq,Int.reduceLT,Int.reduceLE,Nat.reduceLT,tiA,tiXA, awpTS_run_nil, awpTS_run_cons, awpTS_nil, awpTS_one, awpIS_nil, awpIS_cons, stepIS_op, loadOk]
              exact ⟨.inr (.inr (LE.les (sc3.le _))), hJ.free12, k1, k2⟩
          · rintro t H3 ⟨hJ, k1, k2⟩
            obtain ⟨a, b, cc, o, _, _, k3, k4, k5⟩ := hJ.ow
            obtain rfl := k3 rfl
            obtain ⟨oi, h40, rfl⟩ := k5 (by simp)
            have r8 := (o.rowAt 2 rfl).1
            have t3 := hJ.t3
            have t4 := hJ.t4
            have o4 := (o.putRow 2 rfl (cs' := [.int .i64 q, .int .i64 g, t 274])).pick2 0 2 rfl rfl (by omega)
            try simp (disch := first | omega | (simp only [L3] <;> omega)) only [Sall,evalOp,init,binA_s,binE,binI,unE,convE,okNil,builtE,gv,TD.isAgg,resV,↓reduceIte,Nat.reduceEqDiff,reduceCtorEq,Nat.reduceAdd,Nat.reduceMul,Nat.reduceLeDiff,quietOp,blindOp,Int.reduceEq,Int.reduceLT,Int.reduceLE,Nat.reduceLT,tiA,tiXA, awpTS_run_nil, awpTS_run_cons, awpTS_nil, awpTS_one, awpIS_nil, awpIS_cons, stepIS_op, loadOk, h40, r8, k1, k2, t3, t4]
            exact ⟨.inr (.inr (les_set (o.rowAt 2 rfl).2.1 _)), oi, t 274, rfl, o4⟩
          · try simp (disch := first | omega | (simp only [L3] <;> omega)) only [Sall,evalOp,init,binA_s,binE,binI,unE,convE,okNil,builtE,gv,TD.isAgg,resV,↓reduceIte,Nat.reduceEqDiff,reduceCtorEq,Nat.reduceAdd,Nat.reduceMul,Nat.reduceLeDiff,quietOp,blindOp,Int.reduceEq,Int.reduceLT,Int.reduceLE,Nat.reduceLT,tiA,tiXA, awpTS_run_nil, awpTS_run_cons, awpTS_nil, awpTS_one, awpIS_nil, awpIS_cons, stepIS_op, loadOk, h3, h4, gz3, hx, hei]
            exact ⟨.inl rfl, by simp, rfl, rfl, rfl, rfl, h3, h4, .no, .no, .no, (Ow.refl scz).addNo.addNo.addNo, fun e => (by cases e), fun e => (by cases e), fun e => (by cases e), fun k => absurd (by simp) k, fun k => absurd (by simp) k⟩
        · rintro t H5 ⟨oi, u, h40, h3, h4, o5⟩
          have r5 := (o5.rowAt 1 rfl).1
          have hu := o5.one 0 rfl
          obtain ⟨S1, hS1, hp1⟩ := o5.at (k := 0) rfl
          have rc5 : Rc u (ws ++ [v4]) (R ++ [T']) H5 := rc_of_sl (RowsC.snoc (rcz.same (o5.old scz)).1 (r4z.same (o5.old scz))) hp1
          have gz5 := o5.old scz _ _ gz3
          have r45 := r4z.same (o5.old scz)
          have hl3 : (R ++ [T']).length ≤ 4194304 := by rw [List.length_append, List.length_singleton]; omega
          have hl4 : ∀ r ∈ R ++ [T'], r.length ≤ 4194304 := fun r hr => by
            rcases List.mem_append.1 hr with hr | hr
            · exact hl2 r hr
            · rw [List.mem_singleton] at hr; rw [hr]; omega
          have b0 : ((0 : Int) == 0) = true := rfl
          have hc0 := glC_soc f1
          have hti : glC q g (R ++ [T']) (decide (0 ≤ (R.length : Int) ∧ (R.length : Int) ≤ ((R ++ [T']).length : Int) - 1)) = 0 := by
            rw [decide_eq_true (by rw [List.length_append, List.length_singleton]; omega)]; exact hc0
          try simp (disch := first | omega | (simp only [L3] <;> omega)) only [Sall,evalOp,init,binA_s,binE,binI,unE,convE,okNil,builtE,gv,TD.isAgg,resV,↓reduceIte,Nat.reduceEqDiff,reduceCtorEq,Nat.reduceAdd,Nat.reduceMul,Nat.reduceLeDiff,quietOp,blindOp,Int.reduceEq,Int.reduceLT,Int.reduceLE,Nat.reduceLT,tiA,tiXA, h40, r5, hu]
          refine (IsSocial_c q g u (R ++ [T']) H5 rc5.rg hl3 hl4).to ?_
          refine Holds.mp ?_
          rw [f1, hc0]
          try simp (disch := first | omega | (simp only [L3] <;> omega)) only [Sall,evalOp,init,binA_s,binE,binI,unE,convE,okNil,builtE,gv,TD.isAgg,resV,↓reduceIte,Nat.reduceEqDiff,reduceCtorEq,Nat.reduceAdd,Nat.reduceMul,Nat.reduceLeDiff,quietOp,blindOp,Int.reduceEq,Int.reduceLT,Int.reduceLE,Nat.reduceLT,tiA,tiXA, h40, r5, hu, h3, gz5, hx, builtE, hlx]
          refine ACalls.ex (g := fun w => .tuple #[w, .int .i64 (glC q g (R ++ [T']) (decide (0 ≤ (R.length : Int) ∧ (R.length : Int) ≤ ((R ++ [T']).length : Int) - 1)))]) (TidyRound_c q g u (R ++ [T']) (R.length : Int) H5 rc5.rg hl3 hl4) ?_
          rintro v43 H6 o6
          rw [f2] at o6
          have h43 := o6.one 0 rfl
          rw [hti]
          refine Holds.mp ?_
          try simp (disch := first | omega | (simp only [L3] <;> omega)) only [Sall,evalOp,init,binA_s,binE,binI,unE,convE,okNil,builtE,gv,TD.isAgg,resV,↓reduceIte,Nat.reduceEqDiff,reduceCtorEq,Nat.reduceAdd,Nat.reduceMul,Nat.reduceLeDiff,quietOp,blindOp,Int.reduceEq,Int.reduceLT,Int.reduceLE,Nat.reduceLT,tiA,tiXA, h43, b0, h4]
          refine (likeInts_c v43 v4 _ T' H6 (by omega) (o6.rd 0 rfl) (r45.same (o6.old o5.sc)).rd).to ?_
          refine Holds.mp ?_
          try simp (disch := first | omega | (simp only [L3] <;> omega)) only [Sall,evalOp,init,binA_s,binE,binI,unE,convE,okNil,builtE,gv,TD.isAgg,resV,↓reduceIte,Nat.reduceEqDiff,reduceCtorEq,Nat.reduceAdd,Nat.reduceMul,Nat.reduceLeDiff,quietOp,blindOp,Int.reduceEq,Int.reduceLT,Int.reduceLE,Nat.reduceLT,tiA,tiXA, true_and]
end Go.Proofs.YtollphjompimjaaGreat.A
end

section
set_option maxRecDepth 100000
namespace Go.Proofs.YtollphjompimjaaGreat.A
open Go Go.Abs Go.RowKit
section
variable {K : Type} {enc : TypeId × Value → K} {W : World} {base b0 : Nat} {spare : Nat → Bool} {held : Bool}
end
end Go.Proofs.YtollphjompimjaaGreat.A
end

section
set_option maxRecDepth 100000
namespace Go.Proofs.YtollphjompimjaaGreat.A
open Go Go.Abs Go.RowKit
section
variable {K : Type} {enc : TypeId × Value → K} {W : World} {b0 : Nat} {spare : Nat → Bool} {held : Bool} {v : Value} {d : DataW K} {p : List MemPlace}
theorem cell_of_val {t e : TypeId} (hu : Tryz.prog.underlying t = some (.slice e)) (hok : Value.okWide Tryz.prog W .any b0 t v) : Cell.okWide Tryz.prog W .any 0 t v := by
  unfold Value.okWide at hok
  rw [hu] at hok
  exact hok
theorem cells_slice1 {t e : TypeId} (hu : Tryz.prog.underlying t = some (.slice e)) (hok : Cell.okWide Tryz.prog W .any 0 t v) : v.cells.toList = [v] := by
  rcases ok_slice_cell hu hok with rfl | ⟨b, o, n, c, rfl, _⟩ <;> rfl
end
end Go.Proofs.YtollphjompimjaaGreat.A
end

section
set_option maxRecDepth 100000
namespace Go.Proofs.YtollphjompimjaaGreat.A
open Go Go.Abs Go.RowKit
theorem uByte : Tryz.prog.underlying 5 = some (.int .u8) := by kernel_rfl
theorem uBytes : Tryz.prog.underlying 22 = some (.slice 5) := by kernel_rfl
theorem cByte : Tryz.prog.cellsOf 5 = 1 := by kernel_rfl
section
variable {K : Type} {enc : TypeId × Value → K} {W : World} {b0 : Nat} {spare : Nat → Bool} {held : Bool} {v : Value} {d : DataW K} {p : List MemPlace}
theorem open_B (h : DataW.Trod enc Tryz.prog W 0 spare held 22 v d p) (hok : Value.okWide Tryz.prog W .any b0 22 v) :
    ∃ nb, CodeOk (given W) v nb ∧ V1 id W.heap.size W v v ∧ nb ≤ 9223372036854775807 := by
  have h0 := cell_of_val uBytes hok
  obtain ⟨fuel, h⟩ := h
  rw [cells_slice1 uBytes h0] at h
  rcases ok_slice_cell uBytes h0 with rfl | ⟨b, o, n, c, rfl, hb, hn⟩
  · exact ⟨0, .inl ⟨rfl, _, _, rfl⟩, .scal _ rfl, by omega⟩
  · refine ⟨n, ?_, V1.sle (ρ := id) b o n c hb, hn⟩
    rcases DataW.trod_slice uBytes h with ⟨h0, _⟩ | ⟨a, len, cap, elems, rest, m, _, hcs, _, _, _, _, hlen, hel, _, _⟩
    · simp at h0
    · simp only [List.cons.injEq, Value.slice.injEq, Option.some.injEq, and_true] at hcs
      obtain ⟨rfl, rfl, rfl⟩ := hcs
      have each : ∀ j, j < n → ∃ z, W.cell? ⟨b, o + j, none⟩ = some (.int .u8 z) ∧ 0 ≤ z ∧ z ≤ 255 := by
        intro j hj
        have h1 := hel j hj
        rw [List.getElem?_eq_getElem (by omega), cByte, Option.bind_eq_some_iff] at h1
        obtain ⟨cs', hc1, hc2⟩ := h1
        obtain ⟨_, hl, hc⟩ := World.cells?_some hc1
        have h2 := hc 0 (by omega)
        obtain ⟨z, hz, _, hw⟩ := DataW.trod_int uByte hc2
        refine ⟨z, ?_, ?_⟩
        · rw [hz] at h2
          rw [Addr.add_lit, Addr.add_lit] at h2
          simpa using h2
        · unfold Lit.wf at hw
          simp only [Bool.and_eq_true, decide_eq_true_eq] at hw
          exact hw
      rcases Nat.eq_zero_or_pos n with h0 | h0
      · exact .inl ⟨h0, _, _, by rw [h0]⟩
      · refine .inr ⟨b, o, none, c, ⟨0, false, absRow W b⟩, rfl, ?_, fun j hj => ?_⟩
        · obtain ⟨z, hz, _⟩ := each 0 h0
          exact (given_cell hz).2.1
        · obtain ⟨z, hz, z1, z2⟩ := each j hj
          exact ⟨z, (given_cell hz).2.2, z1, z2⟩
end
end Go.Proofs.YtollphjompimjaaGreat.A
end
