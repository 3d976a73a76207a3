/- Plain lists: the square of a list. No program is named here. And what follows. -/
import Derived.Test.YtpienljnoaendaaGreatM2
set_option linter.unusedSimpArgs false
set_option linter.unusedVariables false
section
namespace Go.Abs
def sqE (n i : Nat) (y : List Int) (j : Nat) : Int := Int.tmod ((i : Int) + y.getD j 0) n
def sqR (n : Nat) (y : List Int) (i c : Nat) : List Int := (List.range n).map fun j => if j < c then sqE n i y j else 0
def sqM (n : Nat) (y : List Int) (i c : Nat) : List (List Int) := (List.range n).map fun a => if a < i then sqR n y a n else if a = i then sqR n y a c else List.replicate n 0
theorem sqR_length (n : Nat) (y : List Int) (i c : Nat) : (sqR n y i c).length = n := by simp [sqR]
theorem sqM_length (n : Nat) (y : List Int) (i c : Nat) : (sqM n y i c).length = n := by simp [sqM]
def sqA (n : Nat) (y : List Int) (a : Nat) : List (List Int) := (List.range a).map fun i => sqR n y i n
def sqP (n : Nat) (y : List Int) (i c : Nat) : List Int := (List.range c).map fun j => sqE n i y j
theorem sqA_length (n : Nat) (y : List Int) (a : Nat) : (sqA n y a).length = a := by simp [sqA]
theorem sqP_length (n : Nat) (y : List Int) (i c : Nat) : (sqP n y i c).length = c := by simp [sqP]
end Go.Abs
end

section
namespace Go.Abs
open Go Go.RowKit
def bools (l : List Bool) : List Value := l.map .bool
theorem zcS (l : List Bool) : (bools l).length = l.length := by simp [bools]
theorem bools_get? (l : List Bool) (i : Nat) (h : i < l.length) : (bools l)[i]? = some (.bool (l.getD i false)) := by simp [bools, h]
theorem bools_set (l : List Bool) (i : Nat) (x : Bool) : (bools l).set i (.bool x) = bools (l.set i x) := by simp [bools, List.map_set]
theorem zfK (n : Nat) : zeros n [.bool false] = bools (List.replicate n false) := by
  unfold zeros bools
  induction n with
  | zero => rfl
  | succ n ih => rw [List.replicate_succ, List.flatten_cons, ih, List.replicate_succ]; rfl
end Go.Abs
end

section
set_option maxRecDepth 100000
set_option maxHeartbeats 2000000
namespace Go.Proofs.YtpienljnoaendaaGreat.A
open Go Go.Abs Go.RowKit
end Go.Proofs.YtpienljnoaendaaGreat.A
end

section
set_option maxRecDepth 100000
set_option maxHeartbeats 2000000
namespace Go.Proofs.YtpienljnoaendaaGreat.A
open Go Go.Abs Go.RowKit
end Go.Proofs.YtpienljnoaendaaGreat.A
end

section
set_option maxRecDepth 100000
set_option maxHeartbeats 2000000
namespace Go.Proofs.YtpienljnoaendaaGreat.A
open Go Go.Abs Go.RowKit
theorem Ow.rebase {cv : Value} {nb si : Nat} {H H1 B H' : AH} {L : List Th} (o : Ow B H' L) (up : Up H.next H H1) (k : SrcB cv nb si H1 B) (hsi : H.next ≤ si) : Ow H H' L := by
  obtain ⟨w, hw⟩ := o.own
  have h1 := up.next
  have h2 := k.next
  have h3 := o.next
  refine ⟨o.sc, by omega, fun i hi => by rw [o.low i (by omega), k.row i (by omega), up.row i hi], w, fun j q hj => q.loc H' H' _ _ (fun i hi => ⟨by omega, hi.2⟩) (fun _ _ _ h => h) (hw j q hj)⟩
theorem CodeX.of {cv : Value} {nb : Nat} {H H1 : AH} (h : CodeOk H cv nb) (hs : Sc H) (up : Up H.next H H1) : CodeX cv nb H.next H1 := fun H' hk => by
  rcases h with ⟨q1, q2⟩ | ⟨i, o, u, c, r, q1, q2, q3⟩
  · exact .inl ⟨q1, q2⟩
  · have := hs _ _ q2
    exact .inr ⟨i, o, u, c, r, q1, hk _ _ (by omega) (by rw [up.row i this]; exact q2), q3⟩
theorem CodeOk.up {cv : Value} {nb : Nat} {H H1 : AH} (h : CodeOk H cv nb) (hs : ∀ i r, H.row i = some r → H1.row i = some r) : CodeOk H1 cv nb := by
  rcases h with ⟨q1, q2⟩ | ⟨i, o, u, c, r, q1, q2, q3⟩
  · exact .inl ⟨q1, q2⟩
  · exact .inr ⟨i, o, u, c, r, q1, hs _ _ q2, q3⟩
end Go.Proofs.YtpienljnoaendaaGreat.A
end

section
set_option maxRecDepth 100000
set_option maxHeartbeats 2000000
namespace Go.Proofs.YtpienljnoaendaaGreat.A
open Go Go.Abs Go.RowKit
theorem big_c (cv : Value) (nb : Nat) (H : AH) (hc : CodeOk H cv nb) : ACalls Tryz.prog 8 [cv] H (is (.bool (decide (4096 < (nb : Int)))) H) := by
  refine za3 [.tmp 2] Tryz.func8 (by kernel_rfl) rfl rfl (Nat.le_of_ble_eq_true rfl) (by kernel_rfl) ?_
  have hln := hc.len
  try simp (disch := first | omega | (simp only [L3] <;> omega)) only [Sall,evalOp,init,binA_s,binE,binI,unE,convE,okNil,builtE,gv,TD.isAgg,resV,↓reduceIte,Nat.reduceEqDiff,reduceCtorEq,Nat.reduceAdd,Nat.reduceMul,Nat.reduceLeDiff,za0,za1,Int.reduceEq,Int.reduceLT,Int.reduceLE,Nat.reduceLT,tiA,tiXA, hln, builtE]
  exact ⟨rfl, rfl⟩
theorem likeInts_c (a b : Value) (n : Nat) (l : List Int) (H : AH) (hn : n ≤ 4294967296) (ha : Rd 1 H a n l) (hb : Rd 1 H b n l) : ACalls Tryz.prog 27 [a, b] H (is (.bool true) H) := by
  refine za3 [.tmp 4] Tryz.func27 (by kernel_rfl) rfl rfl (Nat.le_of_ble_eq_true rfl) (by kernel_rfl) ?_
  have la := ha.len
  have lb := hb.len
  try simp (disch := first | omega | (simp only [L3] <;> omega)) only [Sall,evalOp,init,binA_s,binE,binI,unE,convE,okNil,builtE,gv,TD.isAgg,resV,↓reduceIte,Nat.reduceEqDiff,reduceCtorEq,Nat.reduceAdd,Nat.reduceMul,Nat.reduceLeDiff,za0,za1,Int.reduceEq,Int.reduceLT,Int.reduceLE,Nat.reduceLT,tiA,tiXA, la, lb, builtE, bne_self_eq_false]
  refine za7 (fun z t H' => H' = H ∧ ∃ j : Nat, z = n - j ∧ j ≤ n ∧ t 5 = .int .i64 j ∧ t 0 = a ∧ t 1 = b) n ?_ ?_
  · refine ⟨rfl, 0, by omega, by omega, ?_⟩
    try simp (disch := first | omega | (simp only [L3] <;> omega)) only [Sall,evalOp,init,binA_s,binE,binI,unE,convE,okNil,builtE,gv,TD.isAgg,resV,↓reduceIte,Nat.reduceEqDiff,reduceCtorEq,Nat.reduceAdd,Nat.reduceMul,Nat.reduceLeDiff,za0,za1,Int.reduceEq,Int.reduceLT,Int.reduceLE,Nat.reduceLT,tiA,tiXA, Int.natCast_zero]
  · rintro z t H' ⟨rfl, j, hz, hj, h5, h0, h1⟩
    try simp (disch := first | omega | (simp only [L3] <;> omega)) only [Sall,evalOp,init,binA_s,binE,binI,unE,convE,okNil,builtE,gv,TD.isAgg,resV,↓reduceIte,Nat.reduceEqDiff,reduceCtorEq,Nat.reduceAdd,Nat.reduceMul,Nat.reduceLeDiff,za0,za1,Int.reduceEq,Int.reduceLT,Int.reduceLE,Nat.reduceLT,tiA,tiXA, h5, h0, la, builtE]
    refine za6 (fun hh => ?_) (fun hh => ?_)
    · obtain ⟨ai, ao, au, ac, ar, rfl, a1, a2, a3, a4⟩ := ha.get (by omega)
      obtain ⟨bi, bo, bu, bc, br, rfl, b1, b2, b3, b4⟩ := hb.get (by omega)
      have a5 := a3 j (by omega)
      have b5 := b3 j (by omega)
      try simp (disch := first | omega | (simp only [L3] <;> omega)) only [Sall,evalOp,init,binA_s,binE,binI,unE,convE,okNil,builtE,gv,TD.isAgg,resV,↓reduceIte,Nat.reduceEqDiff,reduceCtorEq,Nat.reduceAdd,Nat.reduceMul,Nat.reduceLeDiff,za0,za1,Int.reduceEq,Int.reduceLT,Int.reduceLE,Nat.reduceLT,tiA,tiXA, h5, h0, h1]
      refine zaR (by kernel_rfl) (by kernel_rfl) ?_
      try simp (disch := first | omega | (simp only [L3] <;> omega)) only [Sall,evalOp,init,binA_s,binE,binI,unE,convE,okNil,builtE,gv,TD.isAgg,resV,↓reduceIte,Nat.reduceEqDiff,reduceCtorEq,Nat.reduceAdd,Nat.reduceMul,Nat.reduceLeDiff,za0,za1,Int.reduceEq,Int.reduceLT,Int.reduceLE,Nat.reduceLT,tiA,tiXA, h5, h0, h1, a1, a5, b1, b5, bne_self_eq_false, w64]
      (repeat refine And.intro (by omega) ?_)
      try simp (disch := first | omega | (simp only [L3] <;> omega)) only [Sall,evalOp,init,binA_s,binE,binI,unE,convE,okNil,builtE,gv,TD.isAgg,resV,↓reduceIte,Nat.reduceEqDiff,reduceCtorEq,Nat.reduceAdd,Nat.reduceMul,Nat.reduceLeDiff,za0,za1,Int.reduceEq,Int.reduceLT,Int.reduceLE,Nat.reduceLT,tiA,tiXA, h5, h0, h1, a1, a5, b1, b5, bne_self_eq_false, w64]
      exact ⟨n - (j + 1), by omega, j + 1, rfl, by omega, rfl⟩
    · try simp (disch := first | omega | (simp only [L3] <;> omega)) only [Sall,evalOp,init,binA_s,binE,binI,unE,convE,okNil,builtE,gv,TD.isAgg,resV,↓reduceIte,Nat.reduceEqDiff,reduceCtorEq,Nat.reduceAdd,Nat.reduceMul,Nat.reduceLeDiff,za0,za1,Int.reduceEq,Int.reduceLT,Int.reduceLE,Nat.reduceLT,tiA,tiXA, true_and]
      exact ⟨rfl, rfl⟩
structure Dr (cv : Value) (nb : Nat) (H H1 H' : AH) (L : List Th) : Prop where
  ex : ∃ B, SrcB cv nb H.next H1 B ∧ Ow B H' L
section
variable {cv : Value} {nb : Nat} {H H1 H' : AH} {L : List Th}
theorem Dr.src (h : Dr cv nb H H1 H' L) (hn : H.next < H1.next) : Src cv nb H.next H' := by
  obtain ⟨B, b, o⟩ := h.ex; exact Ow.srcAt o b hn
theorem Dr.code (h : Dr cv nb H H1 H' L) (hx : CodeX cv nb H.next H1) (sc : Sc H1) : CodeX cv nb H.next H' := by
  obtain ⟨B, b, o⟩ := h.ex; exact hx.later fun i r hi hr => Ow.oldX o b sc i r hi hr
theorem Dr.sc (h : Dr cv nb H H1 H' L) : Sc H' := by obtain ⟨B, b, o⟩ := h.ex; exact o.sc
theorem Dr.next (h : Dr cv nb H H1 H' L) (hn : H.next < H1.next) {H2 : AH} (k : SrcB cv nb H.next H' H2) : Dr cv nb H H1 H2 L := by
  obtain ⟨B, b, o⟩ := h.ex
  obtain ⟨B2, b2, o2⟩ := Ow.src o (by rw [b.next]; exact hn) k
  exact ⟨B2, b.trans b2, o2⟩
theorem Dr.call (h : Dr cv nb H H1 H' L) (hn : H.next < H1.next) {H2 H3 : AH} {M : List Th} (k : SrcB cv nb H.next H' H2) (o3 : Ow H2 H3 M) : Dr cv nb H H1 H3 (L ++ M) := by
  obtain ⟨B, b, o⟩ := h.ex
  obtain ⟨B2, b2, o2⟩ := Ow.srcCall o (by rw [b.next]; exact hn) k o3
  exact ⟨B2, b.trans b2, o2⟩
theorem Dr.calls (h : Dr cv nb H H1 H' L) {H3 : AH} {M : List Th} (o3 : Ow H' H3 M) : Dr cv nb H H1 H3 (L ++ M) := by
  obtain ⟨B, b, o⟩ := h.ex
  exact ⟨B, b, o.call o3⟩
theorem Dr.map (h : Dr cv nb H H1 H' L) {H2 : AH} {M : List Th} (f : ∀ B, Ow B H' L → Ow B H2 M) : Dr cv nb H H1 H2 M := by
  obtain ⟨B, b, o⟩ := h.ex
  exact ⟨B, b, f B o⟩
theorem Dr.fin (h : Dr cv nb H H1 H' L) (up : Up H.next H H1) : Ow H H' L := by
  obtain ⟨B, b, o⟩ := h.ex
  exact Ow.rebase o up b (Nat.le_refl _)
end
end Go.Proofs.YtpienljnoaendaaGreat.A
end

section
namespace Go.Abs
open Go Go.RowKit
def Th.cap (k : Nat) (ty : TypeId) (v : Value) (n : Nat) (vs : List Value) : Th where
  p := fun H S => vs.length = n * k ∧ ((n = 0 ∧ v = .slice none 0 0) ∨ ∃ i rest, S i ∧ v = .slice (some ⟨i, 0, some k⟩) n n ∧ H.row i = some ⟨ty, true, vs ++ rest⟩)
  loc := fun H H' S S' hS hr h => ⟨h.1, h.2.imp id fun ⟨i, z, h1, h2, h3⟩ => ⟨i, z, hS i h1, h2, hr i _ h1 h3⟩⟩
theorem zhO {k n : Nat} {ty : TypeId} {v : Value} {vs : List Value} {H : AH} {S : Nat → Prop} (h : (Th.sl k ty v n vs).p H S) : (Th.cap k ty v n vs).p H S :=
  ⟨h.1, h.2.imp id fun ⟨i, h1, h2, h3⟩ => ⟨i, [], h1, h2, by rw [List.append_nil]; exact h3⟩⟩
theorem Ow.tell {B H : AH} {L : List Th} (h : Ow B H L) (k : Nat) {p p' : Th} (hk : L[k]? = some p) (hp : ∀ S, p.p H S → p'.p H S) : Ow B H (L.set k p') :=
  h.upd hk (Nat.le_refl _) h.sc fun S hS q => ⟨fun _ _ _ => rfl, fun S' hS' _ => p'.loc H H _ _ hS' (fun i r _ hr => hr) (hp S q)⟩
theorem Ow.toCap {B H : AH} {L : List Th} (h : Ow B H L) (k : Nat) {z n : Nat} {ty : TypeId} {v : Value} {vs : List Value} (hk : L[k]? = some (.sl z ty v n vs)) : Ow B H (L.set k (.cap z ty v n vs)) :=
  h.tell k hk fun S q => zhO q
theorem Ow.capLen {B H : AH} {L : List Th} (h : Ow B H L) (k : Nat) {z n : Nat} {ty : TypeId} {v : Value} {vs : List Value} (hk : L[k]? = some (.cap z ty v n vs)) : vs.length = n * z := by
  obtain ⟨S, _, hp⟩ := h.at hk
  exact hp.1
theorem Ow.capOne {B H : AH} {L : List Th} (h : Ow B H L) (k : Nat) {z n : Nat} {ty : TypeId} {v : Value} {vs : List Value} (hk : L[k]? = some (.cap z ty v n vs)) : v.oneCell' = true := by
  obtain ⟨S, _, hp⟩ := h.at hk
  rcases hp.2 with ⟨_, rfl⟩ | ⟨i, _, _, rfl, _⟩ <;> rfl
theorem Ow.capGet {B H : AH} {L : List Th} (h : Ow B H L) (k : Nat) {z n : Nat} {ty : TypeId} {v : Value} {vs : List Value} (hk : L[k]? = some (.cap z ty v n vs)) (hn : 0 < n) :
    ∃ i rest, B.next ≤ i ∧ i < H.next ∧ v = .slice (some ⟨i, 0, some z⟩) n n ∧ H.row i = some ⟨ty, true, vs ++ rest⟩ := by
  obtain ⟨S, hS, hp⟩ := h.at hk
  rcases hp.2 with ⟨h0, _⟩ | ⟨i, rest, h1, h2, h3⟩
  · omega
  · exact ⟨i, rest, (hS i h1).1, (hS i h1).2, h2, h3⟩
theorem cap_rs {z n : Nat} {ty : TypeId} {v : Value} {l : List Int} {H : AH} {S : Nat → Prop} (hp : (Th.cap z ty v n (ints l)).p H S) : Rs z H v n l := by
  have hl := hp.1
  rw [za2] at hl
  rcases hp.2 with ⟨rfl, rfl⟩ | ⟨i, rest, h1, rfl, h3⟩
  · exact ⟨⟨hl, .inl ⟨rfl, none, 0, rfl, fun _ => rfl⟩⟩, .inl rfl⟩
  · refine ⟨⟨hl, .inr ⟨i, 0, some z, n, _, rfl, h3, ?_, ?_⟩⟩, .inr (.inl ⟨i, 0, n, rfl⟩)⟩
    · simp [za2, hl]
    · simp only [seg, List.drop_zero]
      rw [← hl, ← za2 l, List.take_left' rfl]
theorem Ow.capRs {B H : AH} {L : List Th} (h : Ow B H L) (k : Nat) {z n : Nat} {ty : TypeId} {v : Value} {l : List Int} (hk : L[k]? = some (.cap z ty v n (ints l))) : Rs z H v n l := by
  obtain ⟨S, hS, hp⟩ := h.at hk
  exact cap_rs hp
theorem Ow.cut {B H : AH} {L : List Th} (h : Ow B H L) (k : Nat) {z n : Nat} {ty : TypeId} {v : Value} {l : List Int} (hk : L[k]? = some (.cap z ty v n (ints l))) {hi : Option Int} {b : Nat} (hb : hi.getD (n : Int) = (b : Int)) (hbn : b ≤ n) :
    ∃ w, (∀ (P : Program) (E : TI) (K : Value → AH → Prop) (H' : AH), E.size = z → K w H' → runOut P H' (sliceE E v none hi none H') K) ∧ Ow B H (L.set k (.cap z ty w b (ints (l.take (b * z))))) := by
  have hl := h.capLen k hk
  rw [za2] at hl
  have hlb : (l.take (b * z)).length = b * z := by
    rw [List.length_take]
    exact Nat.min_eq_left (by rw [hl]; exact Nat.mul_le_mul_right z hbn)
  obtain ⟨S0, hS0, hp0⟩ := h.at hk
  rcases hp0.2 with ⟨rfl, rfl⟩ | ⟨i, rest, h1, rfl, h3⟩
  · obtain rfl : b = 0 := by omega
    refine ⟨.slice none 0 0, fun P E K H' hE hK => ?_, h.tell k hk fun S q => ⟨by rw [za2, hlb], .inl ⟨rfl, rfl⟩⟩⟩
    unfold sliceE
    rw [if_neg (by simp)]
    simp only [zbY, za9, zaK]
    refine ⟨⟨rfl, ?_, rfl⟩, hK⟩
    cases hi with
    | none => rfl
    | some x => simpa using hb
  · refine ⟨.slice (some ⟨i, 0, some z⟩) b b, fun P E K H' hE hK => ?_, h.tell k hk fun S q => ⟨by rw [za2, hlb], ?_⟩⟩
    · unfold sliceE
      rw [if_neg (by simp)]
      have e0 : ((none : Option Int).getD 0) = 0 := rfl
      simp only [zb4, za9, zaK, hb, e0, Int.toNat_natCast, hE, Int.toNat_zero, Nat.zero_mul, Nat.add_zero, Nat.sub_zero]
      exact ⟨⟨by omega, by omega, by omega, trivial⟩, hK⟩
    · rcases q.2 with ⟨_, h7⟩ | ⟨i', rest', g1, g2, g3⟩
      · cases h7
      cases g2
      refine .inr ⟨i, ints (l.drop (b * z)) ++ rest', g1, rfl, ?_⟩
      rw [g3, ← List.append_assoc, zaU, List.take_append_drop]
theorem Ow.appC {P : Program} {E : TI} {z n c : Nat} {ty : TypeId} {B H : AH} {L : List Th} {v : Value} {vs ms : List Value} {K : Value → AH → Prop} (h : Ow B H L) (k : Nat) (hk : L[k]? = some (.cap z ty v n vs)) (hz : E.size = z) (hz0 : 0 < z) (hm : ms.length = c * z) (hc : 0 < c) (hb : E.bytes ≤ 32768) (hn : n + c ≤ 4294967296)
    (hK : ∀ v' H', H.next ≤ H'.next → Ow B H' (L.set k (.cap z ty v' (n + c) (vs ++ ms))) → K v' H') : runOut P H (appE E ty v ms c H) K := by
  subst hz
  obtain ⟨S, hS, hp⟩ := h.at hk
  have hl := hp.1
  have hle : (n + c) * E.size = vs.length + ms.length := by rw [hl, hm, Nat.add_mul]
  have hlen' : (vs ++ ms).length = (n + c) * E.size := by rw [List.length_append, hle]
  unfold appE
  rw [if_neg (by omega)]
  rcases hp.2 with ⟨rfl, rfl⟩ | ⟨i, rest, h1, rfl, hr⟩
  · simp only [zbY, za9, zaK]
    have hv0 : vs = [] := List.eq_nil_of_length_eq_zero (by omega)
    subst hv0
    refine ⟨⟨by omega, hb⟩, hK _ _ (Nat.le_succ _) (h.upd hk (Nat.le_succ _) (h.sc.push _) fun S hS hp => ⟨fun j hj _ => by rw [AH.push_row, if_neg (by omega)], fun S' _ hN => ⟨hlen', .inr ⟨H.next, [], hN _ (Nat.le_refl _) (Nat.lt_succ_self _), by simp, by rw [AH.push_row, if_pos rfl]; simp⟩⟩⟩)⟩
  · have hseg : seg (vs ++ rest) 0 (n * E.size) = vs := by
      simp only [seg, List.drop_zero]
      rw [← hl, List.take_left' rfl]
    simp only [zb4, hr, zb0, za9, Nat.zero_add, hseg]
    refine ⟨⟨by omega, hb, by rw [List.length_append]; omega, .inl rfl⟩, ?_⟩
    split
    · rename_i hfit
      simp only [za9, zaK]
      refine ⟨⟨trivial, trivial, hz0, .inr trivial⟩, hK _ _ (Nat.le_refl _) (h.upd hk (Nat.le_refl _) (h.sc.set _ _) fun S hS hp => ?_)⟩
      rcases hp.2 with ⟨_, h7⟩ | ⟨i', rest', g1, g2, g3⟩
      · cases h7
      cases g2
      refine ⟨fun j hj hjS => by rw [AH.setCells_row, if_neg (fun e => hjS (by rw [e]; exact g1))], fun S' hS' _ => ⟨hlen', .inr ⟨i, rest'.drop ms.length, hS' i g1, rfl, ?_⟩⟩⟩
      rw [hr] at g3
      simp only [Option.some.injEq, Row.mk.injEq, true_and] at g3
      rw [AH.setCells_row, if_pos rfl, hr, g3]
      simp only [Option.map_some, Option.some.injEq, Row.mk.injEq, true_and]
      unfold splice
      rw [← hl, List.take_left' rfl, List.append_assoc, List.drop_append, List.drop_eq_nil_of_le (Nat.le_add_right _ _), Nat.add_sub_cancel_left, List.nil_append, List.append_assoc]
    · rename_i hfit
      simp only [za9, zaK]
      refine ⟨⟨trivial, trivial, hz0, trivial, trivial⟩, hK _ _ (Nat.le_succ _) (h.upd hk (Nat.le_succ _) ((h.sc.drop i).push _) fun S hS hp => ?_)⟩
      rcases hp.2 with ⟨_, h7⟩ | ⟨i', rest', g1, g2, g3⟩
      · cases h7
      cases g2
      refine ⟨fun j hj hjS => ?_, fun S' _ hN => ⟨hlen', .inr ⟨H.next, [], hN _ (Nat.le_refl _) (Nat.lt_succ_self _), rfl, ?_⟩⟩⟩
      · rw [AH.push_row, if_neg (by rw [AH.drop_next]; omega), AH.drop_row, if_neg (fun e => hjS (by rw [e]; exact g1))]
      · rw [AH.push_row, AH.drop_next, if_pos rfl, List.append_nil]
theorem Ow.capPut {B H : AH} {L : List Th} (h : Ow B H L) (k : Nat) {z n i m c o : Nat} {u : Option Nat} {ty : TypeId} {vs vs' rest : List Value} (hk : L[k]? = some (.cap z ty (.slice (some ⟨i, o, u⟩) m c) n vs)) (hr : H.row i = some ⟨ty, true, vs ++ rest⟩) (hl : vs'.length = vs.length) :
    Ow B (H.setCells i (vs' ++ rest)) (L.set k (.cap z ty (.slice (some ⟨i, o, u⟩) m c) n vs')) := by
  refine h.upd hk (Nat.le_refl _) (h.sc.set _ _) fun S hS hp => ?_
  rcases hp.2 with ⟨_, h1⟩ | ⟨i', rest', h1, h2, h3⟩
  · cases h1
  · cases h2
    exact ⟨fun j hj hjS => by rw [AH.setCells_row, if_neg (fun e => hjS (by rw [e]; exact h1))], fun S' hS' _ => ⟨by rw [hl]; exact hp.1, .inr ⟨i, rest, hS' i h1, rfl, by rw [AH.setCells_row, if_pos rfl, hr]; rfl⟩⟩⟩
theorem Ow.appR {P : Program} {E : TI} {z n c : Nat} {ty : TypeId} {B H : AH} {L : List Th} {w v : Value} {vs : List Value} {l : List Int} {K : Value → AH → Prop} (h : Ow B H L) (k : Nat) (hk : L[k]? = some (.cap z ty w n vs)) (hv : Rd z H v c l) (hrow : ∀ i o u n c, v = .slice (some ⟨i, o, u⟩) n c → ∃ r, H.row i = some r ∧ o ≤ r.cells.length) (hz : E.size = z) (hz0 : 0 < z) (hb : E.bytes ≤ 32768) (hn : n + c ≤ 4294967296)
    (hK : ∀ v' H', H.next ≤ H'.next → Ow B H' (L.set k (.cap z ty v' (n + c) (vs ++ ints l))) → K v' H') : runOut P H (zaO H z v fun xs m => appE E ty w xs m H) K := by
  have hl := hv.1
  have hkl := (List.getElem?_eq_some_iff.1 hk).1
  rcases Nat.eq_zero_or_pos c with rfl | hc
  · have hl0 : l = [] := List.eq_nil_of_length_eq_zero (by omega)
    subst hl0
    have eL : L.set k (.cap z ty w (n + 0) (vs ++ ints [])) = L := by
      have e : Th.cap z ty w (n + 0) (vs ++ ints []) = Th.cap z ty w n vs := by
        show Th.cap z ty w n (vs ++ []) = _
        rw [List.append_nil]
      rw [e]
      apply List.ext_getElem?
      intro j
      rw [List.getElem?_set]
      split
      · rename_i e; subst e; exact hk.symm
      · rfl
    have key : runOut P H (appE E ty w [] 0 H) K := by
      unfold appE
      rw [if_pos rfl]
      obtain ⟨S, hS, hp⟩ := h.at hk
      have hK' := hK w H (Nat.le_refl _) (by rw [eL]; exact h)
      rcases hp.2 with ⟨_, rfl⟩ | ⟨i, rest, h1, rfl, hr⟩
      · simp only [zbY, zaK]; exact hK'
      · simp only [zb4, za9, zaK]; exact ⟨(fun h => by cases h), hK'⟩
    rcases hv.2 with ⟨_, a, c, rfl, ha⟩ | ⟨i, o, u, c, r, rfl, hr, h3, h4⟩
    · cases a with
      | none =>
        unfold zaO
        have hc0 : c = 0 := ha rfl
        subst hc0
        simp only [zbY]
        exact key
      | some a =>
        obtain ⟨i, o, u⟩ := a
        obtain ⟨r, hr, ho⟩ := hrow i o u 0 c rfl
        unfold zaO
        simp only [zb4, hr, zb0, za9, Nat.zero_mul, Nat.add_zero]
        have e0 : seg r.cells o 0 = [] := by simp [seg]
        rw [e0]
        exact ⟨⟨ho, .inr (by simp)⟩, key⟩
    · unfold zaO
      simp only [zb4, hr, zb0, za9, Nat.zero_mul, Nat.add_zero]
      have e0 : seg r.cells o 0 = [] := by simp [seg]
      rw [e0]
      exact ⟨⟨by omega, .inr (by simp)⟩, key⟩
  · obtain ⟨i, o, u, cc, r, rfl, hr, h3, _, h5⟩ := hv.get hc
    unfold zaO
    have hsg : seg r.cells o (c * z) = ints l := by
      have := h5 0 (c * z) (by omega)
      rw [Nat.add_zero] at this
      rw [this, List.drop_zero, List.take_of_length_le (by omega)]
    simp only [zb4, hr, zb0, za9, hsg]
    refine ⟨⟨h3, ?_⟩, h.appC k hk hz hz0 (by rw [za2, hl]) hc hb hn hK⟩
    have := ok_ints (r := r) l
    simpa using this
theorem Ow.alone {B H : AH} {L : List Th} (h : Ow B H L) : ∃ B' H3, Ow B' H3 L ∧ ∀ i r, H3.row i = some r → B.next ≤ i ∧ H.row i = some r := by
  have hn := h.next
  obtain ⟨w, hw⟩ := h.own
  refine ⟨⟨B.next, fun _ => none⟩, ⟨H.next, fun i => if B.next ≤ i ∧ i < H.next then H.row i else none⟩, ⟨fun i r hr => ?_, hn, fun i hi => ?_, w, fun k p hk => ?_⟩, fun i r hr => ?_⟩
  · dsimp only at hr ⊢
    split at hr
    · rename_i h1; exact h1.2
    · cases hr
  · dsimp only at hi ⊢
    rw [if_neg (by omega)]
  · refine p.loc H _ _ _ (fun j hj => hj) (fun j r hj hr => ?_) (hw k p hk)
    show (if B.next ≤ j ∧ j < H.next then H.row j else none) = some r
    rw [if_pos ⟨hj.1, hj.2.1⟩]; exact hr
  · dsimp only at hr
    split at hr
    · rename_i h1; exact ⟨h1.1, hr⟩
    · cases hr
end Go.Abs
end

section
set_option maxRecDepth 100000
set_option maxHeartbeats 2000000
namespace Go.Proofs.YtpienljnoaendaaGreat.A
open Go Go.Abs Go.RowKit
end Go.Proofs.YtpienljnoaendaaGreat.A
end

section
set_option maxRecDepth 100000
set_option maxHeartbeats 2000000
namespace Go.Proofs.YtpienljnoaendaaGreat.A
open Go Go.Abs Go.RowKit
end Go.Proofs.YtpienljnoaendaaGreat.A
end

section
set_option maxRecDepth 100000
set_option maxHeartbeats 2000000
namespace Go.Proofs.YtpienljnoaendaaGreat.A
open Go Go.Abs Go.RowKit
end Go.Proofs.YtpienljnoaendaaGreat.A
end

section
namespace Go.Abs
def oddUp (n : Nat) : Nat := n - 1 + n % 2
def cb (m r x : Nat) : Int := Int.tmod (2 * (r : Int) - (x : Int) + (m : Int)) (m : Int)
def cmid (n r k : Nat) : List Int := (List.range 14).map fun x => if x < oddUp n then (if x < k ∨ cb (oddUp n) r x < k then cb (oddUp n) r x else x) else if x < n then x else 0
def cset (n r k : Nat) : List Int := (List.range 14).map fun x => if x < oddUp n then (if x < k then cb (oddUp n) r x else x) else if x < n then x else 0
def cround (n r : Nat) : List Int := if n % 2 = 0 then ((cmid n r (oddUp n)).set (n - 1) r).set r ((n : Int) - 1) else cmid n r (oddUp n)
theorem zaT (n r k : Nat) : (cmid n r k).length = 14 := by simp [cmid]
theorem zaV (n r k : Nat) : (cset n r k).length = 14 := by simp [cset]
theorem zaJ (n r : Nat) : (cround n r).length = 14 := by unfold cround; split <;> simp [zaT]
theorem cb_range : ∀ n, n < 15 → ∀ r, r < oddUp n → ∀ x, x < oddUp n → 0 ≤ cb (oddUp n) r x ∧ cb (oddUp n) r x < oddUp n := by decide +kernel
theorem cset_zero : ∀ n, n < 15 → ∀ r, r < oddUp n → cset n r 0 = (List.range 14).map (fun (a : Nat) => if (a : Int) < (n : Int) then (a : Int) else 0) := by decide +kernel
theorem cset_step : ∀ n, n < 15 → ∀ r, r < oddUp n → ∀ k, k < oddUp n → (cset n r k).set k (cb (oddUp n) r k) = cset n r (k + 1) := by decide +kernel
theorem cset_last : ∀ n, n < 15 → ∀ r, r < oddUp n → cset n r (oddUp n) = cmid n r (oddUp n) := by decide +kernel
def zc7 (n k : Nat) : List Int := ((List.range k).map (cround n)).flatten
theorem zf7 (n k : Nat) : zc7 n (k + 1) = zc7 n k ++ cround n k := by simp [zc7, List.range_succ]
end Go.Abs
end

section
set_option maxRecDepth 100000
namespace Go.Proofs.YtpienljnoaendaaGreat.A
open Go Go.Abs Go.RowKit
def freeL (n : Int) : List Int := (List.range 14).map fun (a : Nat) => if (a : Int) < n then (a : Int) else 0
theorem zaD (n : Int) : (freeL n).length = 14 := by simp [freeL]
theorem zhP (a : Int) (h : 0 ≤ a) (h' : a < 14) : (freeL a).set a.toNat a = freeL (a + 1) := by
  apply List.ext_getElem
  · simp [freeL]
  · intro i h1 h2
    simp only [freeL, List.getElem_set, List.getElem_map, List.getElem_range]
    split
    · rename_i e; rw [if_pos (by omega)]; omega
    · rename_i e; split <;> split <;> omega
theorem free_c (n : Int) (hn : n ≤ 14) (H : AH) : ACalls Tryz.prog 151 [.int .i64 n] H (is (.agg (ints (freeL n)).toArray) H) := by
  refine zaZ (zd9 _) (za3 [.cell 2 69] Tryz.func151 (by kernel_rfl) rfl rfl (Nat.le_of_ble_eq_true rfl) (by kernel_rfl) ?_)
  try simp (disch := first | omega | (simp only [za2, zaD, List.length_replicate] <;> omega)) only [Sall,evalOp,init,binA_s,binE,binI,unE,convE,okNil,builtE,gv,TD.isAgg,resV,↓reduceIte,Nat.reduceEqDiff,reduceCtorEq,Nat.reduceAdd,Nat.reduceMul,Nat.reduceLeDiff,za0,za1,Int.reduceEq,Int.reduceLT,Int.reduceLE,Nat.reduceLT,tiA, true_and]
  refine za7 (fun m t H' => ∃ a : Int, m = (n - a).toNat ∧ 0 ≤ a ∧ a ≤ 14 ∧ (a ≤ n ∨ a = 0) ∧ t 7 = .int .i64 a ∧ t 6 = .int .i64 n ∧ t 3 = .pointer (some ⟨H.next + 1, 0, none⟩) ∧ t 2 = .pointer (some ⟨H.next, 0, none⟩) ∧ Up H.next H H' ∧
    H'.row H.next = some ⟨69, true, ints (List.replicate 14 0)⟩ ∧ H'.row (H.next + 1) = some ⟨69, true, ints (freeL a)⟩) n.toNat ?_ ?_
  · refine ⟨0, by omega, by omega, by omega, by omega, ?_⟩
    try simp (disch := first | omega | (simp only [za2, zaD, List.length_replicate] <;> omega)) only [Sall,evalOp,init,binA_s,binE,binI,unE,convE,okNil,builtE,gv,TD.isAgg,resV,↓reduceIte,Nat.reduceEqDiff,reduceCtorEq,Nat.reduceAdd,Nat.reduceMul,Nat.reduceLeDiff,za0,za1,Int.reduceEq,Int.reduceLT,Int.reduceLE,Nat.reduceLT,tiA, true_and]
    refine ⟨(((Up.refl _ H).push (by omega) _).push (Nat.le_succ _) _).set (by omega) _, ?_⟩
    exact congrArg (fun l => Row.mk _ true (ints l)) (by decide : List.replicate 14 0 = freeL 0)
  · rintro m t H' ⟨a, hm, h0, h14, han, h7, h6, h3, h2, hup, hr0, hr1⟩
    try simp (disch := first | omega | (simp only [za2, zaD, List.length_replicate] <;> omega)) only [Sall,evalOp,init,binA_s,binE,binI,unE,convE,okNil,builtE,gv,TD.isAgg,resV,↓reduceIte,Nat.reduceEqDiff,reduceCtorEq,Nat.reduceAdd,Nat.reduceMul,Nat.reduceLeDiff,za0,za1,Int.reduceEq,Int.reduceLT,Int.reduceLE,Nat.reduceLT,tiA, h7, h6]
    refine za6 (fun h => ?_) (fun h => ?_)
    · try simp (disch := first | omega | (simp only [za2, zaD, List.length_replicate] <;> omega)) only [Sall,evalOp,init,binA_s,binE,binI,unE,convE,okNil,builtE,gv,TD.isAgg,resV,↓reduceIte,Nat.reduceEqDiff,reduceCtorEq,Nat.reduceAdd,Nat.reduceMul,Nat.reduceLeDiff,za0,za1,Int.reduceEq,Int.reduceLT,Int.reduceLE,Nat.reduceLT,tiA, h7, h6, h3, h2, hr1, hr0, zaH, w64, zhP]
      refine ⟨⟨h0, by omega⟩, by rw [zaD]; omega, (n - (a + 1)).toNat, by omega, a + 1, rfl, by omega, by omega, by omega, rfl, hup.set (by omega) _, rfl⟩
    · try simp (disch := first | omega | (simp only [za2, zaD, List.length_replicate] <;> omega)) only [Sall,evalOp,init,binA_s,binE,binI,unE,convE,okNil,builtE,gv,TD.isAgg,resV,↓reduceIte,Nat.reduceEqDiff,reduceCtorEq,Nat.reduceAdd,Nat.reduceMul,Nat.reduceLeDiff,za0,za1,Int.reduceEq,Int.reduceLT,Int.reduceLE,Nat.reduceLT,tiA, h7, h6, h3, h2, hr1, hr0, zaD]
      refine ⟨?_, hup.set (by omega) _⟩
      rcases han with h | h
      · rw [show a = n by omega]
      · subst h; congr 3; simp only [freeL]; apply List.map_congr_left; intro x hx; rw [if_neg (by omega), if_neg (by omega)]
theorem freeS_c (n : Int) (hn : n ≤ 14) (H : AH) : ACalls Tryz.prog 153 [.int .i64 n] H (is (.agg (ints (freeL n)).toArray) H) := by
  refine zaZ (zd9 _) (za3 [.cell 2 69] Tryz.func153 (by kernel_rfl) rfl rfl (Nat.le_of_ble_eq_true rfl) (by kernel_rfl) ?_)
  try simp (disch := first | omega | (simp only [za2, zaD, List.length_replicate] <;> omega)) only [Sall,evalOp,init,binA_s,binE,binI,unE,convE,okNil,builtE,gv,TD.isAgg,resV,↓reduceIte,Nat.reduceEqDiff,reduceCtorEq,Nat.reduceAdd,Nat.reduceMul,Nat.reduceLeDiff,za0,za1,Int.reduceEq,Int.reduceLT,Int.reduceLE,Nat.reduceLT,tiA, true_and]
  refine za7 (fun m t H' => ∃ a : Int, m = (n - a).toNat ∧ 0 ≤ a ∧ a ≤ 14 ∧ (a ≤ n ∨ a = 0) ∧ t 4 = .int .i64 a ∧ t 0 = .int .i64 n ∧ t 3 = .pointer (some ⟨H.next + 1, 0, none⟩) ∧ t 2 = .pointer (some ⟨H.next, 0, none⟩) ∧ Up H.next H H' ∧
    H'.row H.next = some ⟨69, true, ints (List.replicate 14 0)⟩ ∧ H'.row (H.next + 1) = some ⟨69, true, ints (freeL a)⟩) n.toNat ?_ ?_
  · refine ⟨0, by omega, by omega, by omega, by omega, ?_⟩
    try simp (disch := first | omega | (simp only [za2, zaD, List.length_replicate] <;> omega)) only [Sall,evalOp,init,binA_s,binE,binI,unE,convE,okNil,builtE,gv,TD.isAgg,resV,↓reduceIte,Nat.reduceEqDiff,reduceCtorEq,Nat.reduceAdd,Nat.reduceMul,Nat.reduceLeDiff,za0,za1,Int.reduceEq,Int.reduceLT,Int.reduceLE,Nat.reduceLT,tiA, true_and]
    refine ⟨(((Up.refl _ H).push (by omega) _).push (Nat.le_succ _) _).set (by omega) _, ?_⟩
    exact congrArg (fun l => Row.mk _ true (ints l)) (by decide : List.replicate 14 0 = freeL 0)
  · rintro m t H' ⟨a, hm, h0, h14, han, h7, h6, h3, h2, hup, hr0, hr1⟩
    try simp (disch := first | omega | (simp only [za2, zaD, List.length_replicate] <;> omega)) only [Sall,evalOp,init,binA_s,binE,binI,unE,convE,okNil,builtE,gv,TD.isAgg,resV,↓reduceIte,Nat.reduceEqDiff,reduceCtorEq,Nat.reduceAdd,Nat.reduceMul,Nat.reduceLeDiff,za0,za1,Int.reduceEq,Int.reduceLT,Int.reduceLE,Nat.reduceLT,tiA, h7, h6]
    refine za6 (fun h => ?_) (fun h => ?_)
    · try simp (disch := first | omega | (simp only [za2, zaD, List.length_replicate] <;> omega)) only [Sall,evalOp,init,binA_s,binE,binI,unE,convE,okNil,builtE,gv,TD.isAgg,resV,↓reduceIte,Nat.reduceEqDiff,reduceCtorEq,Nat.reduceAdd,Nat.reduceMul,Nat.reduceLeDiff,za0,za1,Int.reduceEq,Int.reduceLT,Int.reduceLE,Nat.reduceLT,tiA, h7, h6, h3, h2, hr1, hr0, zaH, w64, zhP, zaD]
      refine ⟨⟨h0, by omega⟩, by omega, (n - (a + 1)).toNat, by omega, a + 1, rfl, by omega, by omega, by omega, rfl, hup.set (by omega) _, rfl⟩
    · try simp (disch := first | omega | (simp only [za2, zaD, List.length_replicate] <;> omega)) only [Sall,evalOp,init,binA_s,binE,binI,unE,convE,okNil,builtE,gv,TD.isAgg,resV,↓reduceIte,Nat.reduceEqDiff,reduceCtorEq,Nat.reduceAdd,Nat.reduceMul,Nat.reduceLeDiff,za0,za1,Int.reduceEq,Int.reduceLT,Int.reduceLE,Nat.reduceLT,tiA, h7, h6, h3, h2, hr1, hr0, zaD]
      refine ⟨?_, hup.set (by omega) _⟩
      rcases han with h | h
      · rw [show a = n by omega]
      · subst h; congr 3; simp only [freeL]; apply List.map_congr_left; intro x hx; rw [if_neg (by omega), if_neg (by omega)]
theorem meet_c (i ty : Nat) (a b : Int) (l : List Int) (H : AH) (hr : H.row i = some ⟨ty, true, ints l⟩) (hl : l.length = 14) (ha : 0 ≤ a ∧ a < 14) (hb : 0 ≤ b ∧ b < 14) :
    ACalls Tryz.prog 152 [.pointer (some ⟨i, 0, none⟩), .int .i64 a, .int .i64 b] H (is (.tuple #[]) (H.setCells i (ints ((l.set a.toNat b).set b.toNat a)))) := by
  refine za3 [] Tryz.func152 (by kernel_rfl) rfl rfl (Nat.le_of_ble_eq_true rfl) (by kernel_rfl) ?_
  try simp (disch := first | omega | (simp only [za2, zaD, List.length_replicate] <;> omega)) only [Sall,evalOp,init,binA_s,binE,binI,unE,convE,okNil,builtE,gv,TD.isAgg,resV,↓reduceIte,Nat.reduceEqDiff,reduceCtorEq,Nat.reduceAdd,Nat.reduceMul,Nat.reduceLeDiff,za0,za1,Int.reduceEq,Int.reduceLT,Int.reduceLE,Nat.reduceLT,tiA, true_and]
  refine draw_in [0, 1, 2, 3, 4, 5, 6, 9, 7, 8, 10, 11] (by kernel_rfl) (by kernel_rfl) rfl ?_
  have e1 : (l.set a.toNat b).length = 14 := by simp [hl]
  try simp (disch := first | omega | (simp only [za2, zaD, List.length_replicate] <;> omega)) only [Sall,evalOp,init,binA_s,binE,binI,unE,convE,okNil,builtE,gv,TD.isAgg,resV,↓reduceIte,Nat.reduceEqDiff,reduceCtorEq,Nat.reduceAdd,Nat.reduceMul,Nat.reduceLeDiff,za0,za1,Int.reduceEq,Int.reduceLT,Int.reduceLE,Nat.reduceLT,tiA, hr, zaH, hl, e1, is, AH.setCells_setCells]
  refine ⟨⟨ha.1, by omega⟩, by omega, .inr (.inl (by kernel_rfl)), ⟨hb.1, by omega⟩, by omega, .inr (.inl (by kernel_rfl))⟩
end Go.Proofs.YtpienljnoaendaaGreat.A
end

section
set_option maxRecDepth 100000
namespace Go.Proofs.YtpienljnoaendaaGreat.A
open Go Go.Abs Go.RowKit
def FrS (q : Int) (n : Nat) (l : List Int) (H : AH) (v : Value) (H' : AH) : Prop := ∃ u, v = .agg #[.int .i64 q, u] ∧ Up H.next H H' ∧ Fr 14 69 H.next H'.next H' u n l
theorem circleS_c (n : Nat) (hn : 2 ≤ n ∧ n ≤ 14) (H : AH) : ACalls Tryz.prog 97 [.int .i64 n] H (FrS n (oddUp n) (zc7 n (oddUp n)) H) := by
  refine za3 [.cell 2 26] Tryz.func97 (by kernel_rfl) rfl rfl (Nat.le_of_ble_eq_true rfl) (by kernel_rfl) ?_
  have em : Int.tmod (n : Int) 2 = ((n % 2 : Nat) : Int) := rfl
  have em2 : (n : Int) - 1 + ((n % 2 : Nat) : Int) = (oddUp n : Nat) := by unfold oddUp; omega
  have hm2 : oddUp n ≤ 13 := by unfold oddUp; omega
  have hm3 : n = oddUp n ∨ n = oddUp n + 1 := by unfold oddUp; omega
  try simp (disch := first | omega | (simp only [za2, List.length_replicate, zaJ, zaT, zaV] <;> omega)) only [Sall,evalOp,init,binA_s,binE,binI,unE,convE,okNil,builtE,gv,TD.isAgg,resV,↓reduceIte,Nat.reduceEqDiff,reduceCtorEq,Nat.reduceAdd,Nat.reduceMul,Nat.reduceLeDiff,za0,za1,Int.reduceEq,Int.reduceLT,Int.reduceLE,Nat.reduceLT,tiA, em, w64, em2, zaN]
  refine za7 (fun m t H' => ∃ (r : Nat) (u : Value) (lo hi : Nat), m = oddUp n - r ∧ r ≤ oddUp n ∧ t 5 = .int .i64 r ∧ t 3 = .int .i64 (oddUp n) ∧ t 0 = .int .i64 n ∧ t 2 = .pointer (some ⟨H.next, 0, none⟩) ∧ t 4 = .pointer (some ⟨H.next + 2, 0, none⟩) ∧
    Up H.next H H' ∧ H'.row H.next = some ⟨26, true, [.int .i64 0, .slice none 0 0]⟩ ∧ H'.row (H.next + 2) = some ⟨26, true, [.int .i64 n, u]⟩ ∧ Fr 14 69 lo hi H' u r (zc7 n r) ∧ H.next < lo ∧ hi ≤ H'.next ∧ (hi ≤ H.next + 2 ∨ H.next + 2 < lo) ∧ H.next + 3 ≤ H'.next) (oddUp n) ?_ ?_
  · refine ⟨0, .slice (some ⟨H.next + 1, 0, some 14⟩) 0 0, H.next + 1, H.next + 2, by omega, by omega, ?_⟩
    try simp (disch := first | omega | (simp only [za2, List.length_replicate, zaJ, zaT, zaV] <;> omega)) only [Sall,evalOp,init,binA_s,binE,binI,unE,convE,okNil,builtE,gv,TD.isAgg,resV,↓reduceIte,Nat.reduceEqDiff,reduceCtorEq,Nat.reduceAdd,Nat.reduceMul,Nat.reduceLeDiff,za0,za1,Int.reduceEq,Int.reduceLT,Int.reduceLE,Nat.reduceLT,tiA, Int.natCast_zero]
    exact ⟨((((Up.refl _ H).push (by omega) _).push (Nat.le_succ _) _).push (Nat.le_succ_of_le (Nat.le_succ _)) _).set (by omega) _, ⟨by simp [zc7], .inr ⟨H.next + 1, by omega, by omega, rfl, by simp [AH.push_row, AH.setCells_row, AH.push_next, zc7, ints]⟩⟩, by omega, by omega⟩
  · rintro m t H' ⟨r, u, lo, hi, hm, hr, h5, h3, h0, h2, h4, hup, hr0, hr1, hfr, hlo, hhi, hx, hnx⟩
    try simp (disch := first | omega | (simp only [za2, List.length_replicate, zaJ, zaT, zaV] <;> omega)) only [Sall,evalOp,init,binA_s,binE,binI,unE,convE,okNil,builtE,gv,TD.isAgg,resV,↓reduceIte,Nat.reduceEqDiff,reduceCtorEq,Nat.reduceAdd,Nat.reduceMul,Nat.reduceLeDiff,za0,za1,Int.reduceEq,Int.reduceLT,Int.reduceLE,Nat.reduceLT,tiA, h5, h3]
    refine za6 (fun h => ?_) (fun h => ?_)
    · try simp (disch := first | omega | (simp only [za2, List.length_replicate, zaJ, zaT, zaV] <;> omega)) only [Sall,evalOp,init,binA_s,binE,binI,unE,convE,okNil,builtE,gv,TD.isAgg,resV,↓reduceIte,Nat.reduceEqDiff,reduceCtorEq,Nat.reduceAdd,Nat.reduceMul,Nat.reduceLeDiff,za0,za1,Int.reduceEq,Int.reduceLT,Int.reduceLE,Nat.reduceLT,tiA, h5, h3, h0, h4, h2]
      refine (freeS_c n (by omega) H').to ?_
      try simp (disch := first | omega | (simp only [za2, List.length_replicate, zaJ, zaT, zaV] <;> omega)) only [Sall,evalOp,init,binA_s,binE,binI,unE,convE,okNil,builtE,gv,TD.isAgg,resV,↓reduceIte,Nat.reduceEqDiff,reduceCtorEq,Nat.reduceAdd,Nat.reduceMul,Nat.reduceLeDiff,za0,za1,Int.reduceEq,Int.reduceLT,Int.reduceLE,Nat.reduceLT,tiA, h5, h3, h0, h4, h2, zaD]
      refine za7 (fun m' t H'' => ∃ k : Nat, m' = oddUp n - k ∧ k ≤ oddUp n ∧ t 7 = .int .i64 k ∧ t 5 = .int .i64 r ∧ t 6 = .pointer (some ⟨H'.next, 0, none⟩) ∧ t 3 = .int .i64 (oddUp n) ∧ t 0 = .int .i64 n ∧ t 2 = .pointer (some ⟨H.next, 0, none⟩) ∧ t 4 = .pointer (some ⟨H.next + 2, 0, none⟩) ∧
        Up H'.next H' H'' ∧ H''.next = H'.next + 1 ∧ H''.row H'.next = some ⟨69, true, ints (cset n r k)⟩) (oddUp n) ?_ ?_
      · refine ⟨0, by omega, by omega, ?_⟩
        try simp (disch := first | omega | (simp only [za2, List.length_replicate, zaJ, zaT, zaV] <;> omega)) only [Sall,evalOp,init,binA_s,binE,binI,unE,convE,okNil,builtE,gv,TD.isAgg,resV,↓reduceIte,Nat.reduceEqDiff,reduceCtorEq,Nat.reduceAdd,Nat.reduceMul,Nat.reduceLeDiff,za0,za1,Int.reduceEq,Int.reduceLT,Int.reduceLE,Nat.reduceLT,tiA, Int.natCast_zero, h5, h3, h0, h4, h2]
        refine ⟨((Up.refl _ H').push (by omega) _).set (by omega) _, ?_⟩
        rw [cset_zero n (by omega) r (by omega)]; rfl
      · rintro m' t H'' ⟨k, hm', hk, h7, h5, h6, h3, h0, h2, h4, hup2, hnx2, hr2⟩
        try simp (disch := first | omega | (simp only [za2, List.length_replicate, zaJ, zaT, zaV] <;> omega)) only [Sall,evalOp,init,binA_s,binE,binI,unE,convE,okNil,builtE,gv,TD.isAgg,resV,↓reduceIte,Nat.reduceEqDiff,reduceCtorEq,Nat.reduceAdd,Nat.reduceMul,Nat.reduceLeDiff,za0,za1,Int.reduceEq,Int.reduceLT,Int.reduceLE,Nat.reduceLT,tiA, h7, h3]
        refine za6 (fun hk' => ?_) (fun hk' => ?_)
        · have hb := cb_range n (by omega) r (by omega) k (by omega)
          have eb : Int.tmod (2 * (r : Int) + (oddUp n : Int) - (k : Int)) (oddUp n : Int) = cb (oddUp n) r k := by unfold cb; rw [show 2 * (r : Int) + (oddUp n : Int) - (k : Int) = 2 * (r : Int) - (k : Int) + (oddUp n : Int) by omega]
          have st := cset_step n (by omega) r (by omega) k (by omega)
          have hl := zaV n r k
          try simp (disch := first | omega | (simp only [za2, List.length_replicate, zaJ, zaT, zaV] <;> omega)) only [Sall,evalOp,init,binA_s,binE,binI,unE,convE,okNil,builtE,gv,TD.isAgg,resV,↓reduceIte,Nat.reduceEqDiff,reduceCtorEq,Nat.reduceAdd,Nat.reduceMul,Nat.reduceLeDiff,za0,za1,Int.reduceEq,Int.reduceLT,Int.reduceLE,Nat.reduceLT,tiA, h7, h5, h3, h6, w64, eb, hr2, hl, zaH, st, h0, h2, h4]
          exact ⟨by omega, ⟨by omega, by omega⟩, by omega, oddUp n - (k + 1), by omega, k + 1, rfl, by omega, by omega, hup2.set (Nat.le_refl _) _, hnx2, rfl⟩
        · have hkm : k = oddUp n := by omega
          subst hkm
          rw [cset_last n (by omega) r (by omega)] at hr2
          try simp (disch := first | omega | (simp only [za2, List.length_replicate, zaJ, zaT, zaV] <;> omega)) only [Sall,evalOp,init,binA_s,binE,binI,unE,convE,okNil,builtE,gv,TD.isAgg,resV,↓reduceIte,Nat.reduceEqDiff,reduceCtorEq,Nat.reduceAdd,Nat.reduceMul,Nat.reduceLeDiff,za0,za1,Int.reduceEq,Int.reduceLT,Int.reduceLE,Nat.reduceLT,tiA, h0, em]
          have ne1 : ¬ (H.next + 2 = H'.next) := by omega
          have hcl := zaJ n r
          have hml := zaT n r (oddUp n)
          have fin : ∀ H3 : AH, Up H'.next H' H3 → H3.next = H'.next + 1 → H3.row H'.next = some ⟨69, true, ints (cround n r)⟩ →
              H3.row (H.next + 2) = some ⟨26, true, [.int .i64 n, u]⟩ ∧ Fr 14 69 lo hi H3 u r (zc7 n r) := fun H3 a b c =>
            ⟨by rw [a.row _ (by omega), hr1], hfr.same fun i _ hi => a.row i (by omega)⟩
          by_cases h2n : n % 2 = 0
          · have e0 : (((n % 2 : Nat) : Int) == 0) = true := by rw [h2n]; rfl
            have hm4 : n = oddUp n + 1 := by unfold oddUp; omega
            have ec : ((cmid n r (oddUp n)).set r ((n : Int) - 1)).set ((n : Int) - 1).toNat r = cround n r := by
              unfold cround; rw [if_pos h2n, show ((n : Int) - 1).toNat = n - 1 by omega, List.set_comm _ _ (by omega)]
            have hsl : ((cmid n r (oddUp n)).set r ((n : Int) - 1)).length = 14 := by rw [List.length_set, hml]
            try simp (disch := first | omega | (simp only [za2, List.length_replicate, zaJ, zaT, zaV] <;> omega)) only [Sall,evalOp,init,binA_s,binE,binI,unE,convE,okNil,builtE,gv,TD.isAgg,resV,↓reduceIte,Nat.reduceEqDiff,reduceCtorEq,Nat.reduceAdd,Nat.reduceMul,Nat.reduceLeDiff,za0,za1,Int.reduceEq,Int.reduceLT,Int.reduceLE,Nat.reduceLT,tiA, e0, h0, h5, h6, w64, hr2, hml, zaH, hsl, ec, AH.setCells_setCells]
            refine ⟨⟨by omega, by omega⟩, by omega, ⟨by omega, by omega⟩, by omega, ?_⟩
            obtain ⟨g1, gf⟩ := fin (H''.setCells H'.next (ints (cround n r))) (hup2.set (Nat.le_refl _) _) hnx2 (by rw [AH.setCells_row, if_pos rfl, hr2]; rfl)
            have g2 : (H''.setCells H'.next (ints (cround n r))).row H'.next = some ⟨69, true, ints (cround n r)⟩ := by rw [AH.setCells_row, if_pos rfl, hr2]; rfl
            have g3 := hup2.set (Nat.le_refl _) (ints (cround n r))
            have g4 : (H''.setCells H'.next (ints (cround n r))).next = H'.next + 1 := hnx2
            revert g1 gf g2 g3 g4
            generalize H''.setCells H'.next (ints (cround n r)) = H3
            intro g1 gf g2 g3 g4
            try simp (disch := first | omega | (simp only [za2, List.length_replicate, zaJ, zaT, zaV] <;> omega)) only [Sall,evalOp,init,binA_s,binE,binI,unE,convE,okNil,builtE,gv,TD.isAgg,resV,↓reduceIte,Nat.reduceEqDiff,reduceCtorEq,Nat.reduceAdd,Nat.reduceMul,Nat.reduceLeDiff,za0,za1,Int.reduceEq,Int.reduceLT,Int.reduceLE,Nat.reduceLT,tiA, h4, h6, g1, g2, g4, hcl, zaO, zbZ, ne_eq, reduceCtorEq]
            have h3f : Fr 14 69 lo hi (H3.push ⟨69, true, ints (cround n r)⟩) u r (zc7 n r) := gf.same fun i _ hi => by rw [AH.push_row, if_neg (by omega)]
            refine zfM h3f rfl (by omega) (by rw [hcl]) (by omega) (by decide) (by omega) (by rw [AH.push_next]; omega) ?_
            intro v' H4 k1 k2 k3
            rw [AH.push_next] at k1 k2 k3
            have k4 : H4.row (H.next + 2) = some ⟨26, true, [.int .i64 n, u]⟩ := by rw [k2 _ (by omega) (by omega), AH.push_row, if_neg (by omega), g1]
            have k5 := k3.rd.one
            try simp (disch := first | omega | (simp only [za2, List.length_replicate, zaJ, zaT, zaV] <;> omega)) only [Sall,evalOp,init,binA_s,binE,binI,unE,convE,okNil,builtE,gv,TD.isAgg,resV,↓reduceIte,Nat.reduceEqDiff,reduceCtorEq,Nat.reduceAdd,Nat.reduceMul,Nat.reduceLeDiff,za0,za1,Int.reduceEq,Int.reduceLT,Int.reduceLE,Nat.reduceLT,tiA, h3, h6, h4, h0, h2, h5, k4, k5, w64, List.set_cons_succ, List.set_cons_zero]
            refine ⟨oddUp n - (r + 1), by omega, r + 1, v', H3.next + 1, H3.next + 2, rfl, by omega, by omega, ?_, ?_, rfl, ?_, by omega, by omega, by omega⟩
            · refine Up.set ⟨by omega, fun i hi => ?_⟩ (by omega) _
              rw [k2 i (by omega) (by omega), AH.push_row, if_neg (by omega), g3.row i (by omega), hup.row i hi]
            · rw [k2 _ (by omega) (by omega), AH.push_row, if_neg (by omega), g3.row _ (by omega), hr0]
            · rw [zf7]
              refine k3.same ?_
              intro i hi _
              rw [AH.setCells_row, if_neg (by omega)]
          · have e0 : (((n % 2 : Nat) : Int) == 0) = false := by rw [beq_eq_false_iff_ne]; omega
            try simp (disch := first | omega | (simp only [za2, List.length_replicate, zaJ, zaT, zaV] <;> omega)) only [Sall,evalOp,init,binA_s,binE,binI,unE,convE,okNil,builtE,gv,TD.isAgg,resV,↓reduceIte,Nat.reduceEqDiff,reduceCtorEq,Nat.reduceAdd,Nat.reduceMul,Nat.reduceLeDiff,za0,za1,Int.reduceEq,Int.reduceLT,Int.reduceLE,Nat.reduceLT,tiA, e0, h0, h5, h6, w64]
            have ec : cmid n r (oddUp n) = cround n r := by
              unfold cround; rw [if_neg h2n]
            rw [ec] at hr2
            obtain ⟨g1, gf⟩ := fin H'' hup2 hnx2 hr2
            have g2 := hr2
            have g3 := hup2
            have g4 := hnx2
            revert g1 gf g2 g3 g4
            generalize H'' = H3
            intro g1 gf g2 g3 g4
            try simp (disch := first | omega | (simp only [za2, List.length_replicate, zaJ, zaT, zaV] <;> omega)) only [Sall,evalOp,init,binA_s,binE,binI,unE,convE,okNil,builtE,gv,TD.isAgg,resV,↓reduceIte,Nat.reduceEqDiff,reduceCtorEq,Nat.reduceAdd,Nat.reduceMul,Nat.reduceLeDiff,za0,za1,Int.reduceEq,Int.reduceLT,Int.reduceLE,Nat.reduceLT,tiA, h4, h6, g1, g2, g4, hcl, zaO, zbZ, ne_eq, reduceCtorEq]
            have h3f : Fr 14 69 lo hi (H3.push ⟨69, true, ints (cround n r)⟩) u r (zc7 n r) := gf.same fun i _ hi => by rw [AH.push_row, if_neg (by omega)]
            refine zfM h3f rfl (by omega) (by rw [hcl]) (by omega) (by decide) (by omega) (by rw [AH.push_next]; omega) ?_
            intro v' H4 k1 k2 k3
            rw [AH.push_next] at k1 k2 k3
            have k4 : H4.row (H.next + 2) = some ⟨26, true, [.int .i64 n, u]⟩ := by rw [k2 _ (by omega) (by omega), AH.push_row, if_neg (by omega), g1]
            have k5 := k3.rd.one
            try simp (disch := first | omega | (simp only [za2, List.length_replicate, zaJ, zaT, zaV] <;> omega)) only [Sall,evalOp,init,binA_s,binE,binI,unE,convE,okNil,builtE,gv,TD.isAgg,resV,↓reduceIte,Nat.reduceEqDiff,reduceCtorEq,Nat.reduceAdd,Nat.reduceMul,Nat.reduceLeDiff,za0,za1,Int.reduceEq,Int.reduceLT,Int.reduceLE,Nat.reduceLT,tiA, h3, h6, h4, h0, h2, h5, k4, k5, w64, List.set_cons_succ, List.set_cons_zero]
            refine ⟨oddUp n - (r + 1), by omega, r + 1, v', H3.next + 1, H3.next + 2, rfl, by omega, by omega, ?_, ?_, rfl, ?_, by omega, by omega, by omega⟩
            · refine Up.set ⟨by omega, fun i hi => ?_⟩ (by omega) _
              rw [k2 i (by omega) (by omega), AH.push_row, if_neg (by omega), g3.row i (by omega), hup.row i hi]
            · rw [k2 _ (by omega) (by omega), AH.push_row, if_neg (by omega), g3.row _ (by omega), hr0]
            · rw [zf7]
              refine k3.same ?_
              intro i hi _
              rw [AH.setCells_row, if_neg (by omega)]
    · have hrm : r = oddUp n := by omega
      have hne : ¬ (H.next + 2 = H.next) := by omega
      try simp (disch := first | omega | (simp only [za2, List.length_replicate, zaJ, zaT, zaV] <;> omega)) only [Sall,evalOp,init,binA_s,binE,binI,unE,convE,okNil,builtE,gv,TD.isAgg,resV,↓reduceIte,Nat.reduceEqDiff,reduceCtorEq,Nat.reduceAdd,Nat.reduceMul,Nat.reduceLeDiff,za0,za1,Int.reduceEq,Int.reduceLT,Int.reduceLE,Nat.reduceLT,tiA, h4, h2, hr0, hr1]
      refine ⟨u, rfl, hup.set (Nat.le_refl _) _, ?_⟩
      rw [← hrm]
      exact (Fr.wide (hfr.same (H' := H'.setCells H.next [.int .i64 n, u]) fun i hi _ => by rw [AH.setCells_row, if_neg (by omega)]) (by omega) (by rw [AH.setCells_next]; omega))
end Go.Proofs.YtpienljnoaendaaGreat.A
end

section
namespace Go.Abs
end Go.Abs
end

section
set_option maxRecDepth 100000
set_option maxHeartbeats 2000000
namespace Go.Proofs.YtpienljnoaendaaGreat.A
open Go Go.Abs Go.RowKit
end Go.Proofs.YtpienljnoaendaaGreat.A
end

section
set_option maxRecDepth 100000
set_option maxHeartbeats 2000000
namespace Go.Proofs.YtpienljnoaendaaGreat.A
open Go Go.Abs Go.RowKit
end Go.Proofs.YtpienljnoaendaaGreat.A
end

section
namespace Go.Abs
def reoL (l : List Int) (y : List Int) : List Int := y.flatMap fun x => rnd l x.toNat
theorem reoL_snoc (l y : List Int) (x : Int) : reoL l (y ++ [x]) = reoL l y ++ rnd l x.toNat := by simp [reoL]
end Go.Abs
end

section
set_option maxRecDepth 100000
set_option maxHeartbeats 2000000
namespace Go.Proofs.YtpienljnoaendaaGreat.A
open Go Go.Abs Go.RowKit
theorem l01Reordered_c (n : Nat) (v : Value) (k : Nat) (l : List Int) (w : Value) (y : List Int) (H : AH) (hv : Rd 14 H v k l) (hw : Rd 1 H w y.length y) (hy : ∀ x ∈ y, 0 ≤ x ∧ x < (k : Int)) (hyl : y.length ≤ 40) (hk : k ≤ 4294967296) :
    ACalls Tryz.prog 101 [.agg #[.int .i64 n, v], w] H (FrS n y.length (reoL l y) H) := by
  refine ACalls.wf (by kernel_rfl) fun hs => za3 [.cell 4 26] Tryz.func101 (by kernel_rfl) rfl rfl (Nat.le_of_ble_eq_true rfl) (by kernel_rfl) ?_
  have hone := hv.one
  try simp (disch := first | omega | (simp only [L3] <;> omega)) only [Sall,evalOp,init,binA_s,binE,binI,unE,convE,okNil,builtE,gv,TD.isAgg,resV,↓reduceIte,Nat.reduceEqDiff,reduceCtorEq,Nat.reduceAdd,Nat.reduceMul,Nat.reduceLeDiff,za0,za1,Int.reduceEq,Int.reduceLT,Int.reduceLE,Nat.reduceLT,tiA, hone, zaN]
  refine za7 (fun m t H' => ∃ (c : Nat) (u : Value) (lo hi : Nat), m = y.length - c ∧ c ≤ y.length ∧ t 6 = .int .i64 c ∧ t 1 = w ∧ t 2 = .pointer (some ⟨H.next, 0, none⟩) ∧ t 4 = .pointer (some ⟨H.next + 1, 0, none⟩) ∧ t 5 = .pointer (some ⟨H.next + 3, 0, none⟩) ∧
    Up H.next H H' ∧ H'.row H.next = some ⟨26, true, [.int .i64 n, v]⟩ ∧ H'.row (H.next + 1) = some ⟨26, true, [.int .i64 0, .slice none 0 0]⟩ ∧ H'.row (H.next + 3) = some ⟨26, true, [.int .i64 n, u]⟩ ∧ Fr 14 69 lo hi H' u c (reoL l (y.take c)) ∧ H.next + 1 < lo ∧ hi ≤ H'.next ∧ (hi ≤ H.next + 3 ∨ H.next + 3 < lo) ∧ H.next + 4 ≤ H'.next ∧ Sc H') y.length ?_ ?_
  · refine ⟨0, .slice (some ⟨H.next + 2, 0, some 14⟩) 0 0, H.next + 2, H.next + 3, by omega, by omega, ?_⟩
    try simp (disch := first | omega | (simp only [L3] <;> omega)) only [Sall,evalOp,init,binA_s,binE,binI,unE,convE,okNil,builtE,gv,TD.isAgg,resV,↓reduceIte,Nat.reduceEqDiff,reduceCtorEq,Nat.reduceAdd,Nat.reduceMul,Nat.reduceLeDiff,za0,za1,Int.reduceEq,Int.reduceLT,Int.reduceLE,Nat.reduceLT,tiA, Int.natCast_zero, List.take_zero]
    refine ⟨((((((Up.refl _ H).push (by omega) _).push (Nat.le_succ _) _).push (Nat.le_succ_of_le (Nat.le_succ _)) _).push (Nat.le_succ_of_le (Nat.le_succ_of_le (Nat.le_succ _))) _).set (by omega) _), by rw [if_neg (by omega), if_neg (by omega)], ⟨by simp [reoL], .inr ⟨H.next + 2, by omega, by omega, rfl, ?_⟩⟩, by omega, by omega, ((((Sc.push hs _).push _).push _).push _).set _ _⟩
    simp [AH.push_row, AH.setCells_row, AH.push_next, reoL, ints]
  · rintro m t H' ⟨c, u, lo, hi, hm, hcn, h6, h1, h2, h4, h5, hup, hr0, hr1, hr3, hfr, hlo, hhi, hdj, hnx, hsc⟩
    have hup1 := hup.next
    have hw' : Rd 1 H' w y.length y := hw.same (hup.le hs).row
    try simp (disch := first | omega | (simp only [L3] <;> omega)) only [Sall,evalOp,init,binA_s,binE,binI,unE,convE,okNil,builtE,gv,TD.isAgg,resV,↓reduceIte,Nat.reduceEqDiff,reduceCtorEq,Nat.reduceAdd,Nat.reduceMul,Nat.reduceLeDiff,za0,za1,Int.reduceEq,Int.reduceLT,Int.reduceLE,Nat.reduceLT,tiA, h6, h1, builtE, hw'.len]
    refine za6 (fun h => ?_) (fun h => ?_)
    · have hv' : Rd 14 H' v k l := hv.same (hup.le hs).row
      obtain ⟨i, o, uu, cc, r, rfl, hr, hc', hg, _⟩ := hw'.get (by omega)
      have g1 := hg c (by omega)
      have hx := hy (y.getD c 0) (by rw [List.getD_eq_getElem?_getD, List.getElem?_eq_getElem (by omega)]; exact List.getElem_mem _)
      have htk : y.take (c + 1) = y.take c ++ [y.getD c 0] := by rw [List.take_add_one, List.getElem?_eq_getElem (by omega), List.getD_eq_getElem?_getD, List.getElem?_eq_getElem (by omega)]; rfl
      revert g1 hx htk
      generalize y.getD c 0 = x0
      intro g1 hx htk
      obtain ⟨x, rfl⟩ : ∃ x : Nat, x0 = x := ⟨x0.toNat, by omega⟩
      obtain ⟨i2, o2, u2, c2, r2, rfl, hr2, hc2, _, hg2⟩ := hv'.get (by omega)
      have hrl : (rnd l x).length = 14 := zbA l x k hv.1 (by omega)
      have hrl2 : ((l.drop (x * 14)).take 14).length = 14 := hrl
      have hsg := hg2 (x * 14) 14 (by omega)
      have hrd : ints ((l.drop (x * 14)).take 14) = ints (rnd l x) := rfl
      have hre := reoL_snoc l (y.take c) (x : Int)
      rw [Int.toNat_natCast] at hre
      refine zaR (by kernel_rfl) (by kernel_rfl) ?_
      try simp (disch := first | omega | (simp only [L3] <;> omega)) only [Sall,evalOp,init,binA_s,binE,binI,unE,convE,okNil,builtE,gv,TD.isAgg,resV,↓reduceIte,Nat.reduceEqDiff,reduceCtorEq,Nat.reduceAdd,Nat.reduceMul,Nat.reduceLeDiff,za0,za1,Int.reduceEq,Int.reduceLT,Int.reduceLE,Nat.reduceLT,tiA, h6, h1, h2, h4, h5, hr0, hr3, hr, g1, hr2, hsg, hrd, hrl, hrl2, za2, zaO, zbZ]
      (repeat refine And.intro (by omega) ?_)
      refine ⟨.inr (.inr (hsc.le _)), ?_⟩
      obtain ⟨H2, e2⟩ : ∃ H2, H2 = H'.push ⟨69, true, ints (rnd l x)⟩ := ⟨_, rfl⟩
      have n2 : H2.next = H'.next + 1 := by rw [e2]; rfl
      have s2 : ∀ i, i < H'.next → H2.row i = H'.row i := fun i hi => by rw [e2, AH.push_row, if_neg (by omega)]
      have sc2 : Sc H2 := by rw [e2]; exact hsc.push _
      rw [← e2]
      clear e2
      refine zeQ (k := 14) (lo := lo) (hi := hi) (l := reoL l (y.take c)) (m := rnd l x) (hfr.same fun i _ hi => s2 i (by omega)) rfl (by omega) hrl (by omega) (by decide) (by omega) (by omega) sc2 ?_
      intro v' H3 n3 s3 sc3 f3
      have hr33 : H3.row (H.next + 3) = some ⟨26, true, [.int .i64 n, u]⟩ := by rw [s3 _ (by omega) (by omega), s2 _ (by omega), hr3]
      have o3 := f3.rd.one
      refine ⟨.inr (.inl (by kernel_rfl)), ?_⟩
      try simp (disch := first | omega | (simp only [L3] <;> omega)) only [Sall,evalOp,init,binA_s,binE,binI,unE,convE,okNil,builtE,gv,TD.isAgg,resV,↓reduceIte,Nat.reduceEqDiff,reduceCtorEq,Nat.reduceAdd,Nat.reduceMul,Nat.reduceLeDiff,za0,za1,Int.reduceEq,Int.reduceLT,Int.reduceLE,Nat.reduceLT,tiA, h6, h1, h2, h4, h5, hr33, o3, w64, List.set_cons_succ, List.set_cons_zero]
      refine ⟨.inr (.inl (by kernel_rfl)), y.length - (c + 1), by omega, c + 1, v', H2.next, H2.next + 1, rfl, by omega, rfl, Up.set ⟨by omega, fun i hi => by rw [s3 i (by omega) (by omega), s2 i (by omega), hup.row i hi]⟩ (by omega) _, ?_⟩
      have q0 : H3.row H.next = H'.row H.next := by rw [s3 _ (by omega) (by omega), s2 _ (by omega)]
      have q1 : H3.row (H.next + 1) = H'.row (H.next + 1) := by rw [s3 _ (by omega) (by omega), s2 _ (by omega)]
      refine ⟨by rw [q0, hr0], by rw [q1, hr1], rfl, ?_, by omega, by omega, by omega, by omega, sc3.set _ _⟩
      rw [htk, hre]
      exact f3.same fun i hi _ => by rw [AH.setCells_row, if_neg (by omega)]
    · have hc : c = y.length := by omega
      subst hc
      rw [List.take_length] at hfr
      try simp (disch := first | omega | (simp only [L3] <;> omega)) only [Sall,evalOp,init,binA_s,binE,binI,unE,convE,okNil,builtE,gv,TD.isAgg,resV,↓reduceIte,Nat.reduceEqDiff,reduceCtorEq,Nat.reduceAdd,Nat.reduceMul,Nat.reduceLeDiff,za0,za1,Int.reduceEq,Int.reduceLT,Int.reduceLE,Nat.reduceLT,tiA, h4, h5, hr1, hr3]
      refine ⟨u, rfl, hup.set (by omega) _, ?_⟩
      exact (hfr.same (H' := H'.setCells (H.next + 1) [.int .i64 n, u]) fun i hi _ => by rw [AH.setCells_row, if_neg (by omega)]).wide (by omega) (by rw [AH.setCells_next]; omega)
end Go.Proofs.YtpienljnoaendaaGreat.A
end

section
set_option maxRecDepth 100000
set_option maxHeartbeats 2000000
namespace Go.Proofs.YtpienljnoaendaaGreat.A
open Go Go.Abs Go.RowKit
def VL (n : Nat) (l : List Int) : Prop := ∀ x, x ∈ l → 0 ≤ x ∧ x < (n : Int)
theorem VL.getD {n : Nat} {l : List Int} (h : VL n l) {j : Nat} (hj : j < l.length) : 0 ≤ l.getD j 0 ∧ l.getD j 0 < (n : Int) := by
  rw [List.getD_eq_getElem?_getD, List.getElem?_eq_getElem hj]
  exact h _ (List.getElem_mem _)
theorem VL.set {n : Nat} {l : List Int} (h : VL n l) {x : Int} (hx : 0 ≤ x ∧ x < (n : Int)) (j : Nat) : VL n (l.set j x) := fun y hy => by
  rcases List.mem_or_eq_of_mem_set hy with h1 | h1
  · exact h y h1
  · rw [h1]; exact hx
theorem VL.app {n : Nat} {l m : List Int} (h : VL n l) (k : VL n m) : VL n (l ++ m) := fun y hy => by
  rcases List.mem_append.1 hy with h1 | h1
  · exact h y h1
  · exact k y h1
theorem VL.zeros {n : Nat} (h : 0 < n) (k : Nat) : VL n (List.replicate k 0) := fun y hy => by
  rw [List.eq_of_mem_replicate hy]; omega
theorem VL.nil (n : Nat) : VL n [] := fun y hy => by simp at hy
theorem zcV (n k : Nat) (v pv : Value) (l y : List Int) (H : AH) (hn : 0 < n ∧ n ≤ 14) (hk : k ≤ 4294967290) (hv : Rd 14 H v k l) (hl : VL n l) (hp : Rd 1 H pv n y) (hy : VL n y) :
    ACalls Tryz.prog 120 [.agg #[.int .i64 n, v], pv] H (fun r H' => ∃ u l', r = .agg #[.int .i64 n, u] ∧ Ow H H' [.sl 14 69 u k (ints l')] ∧ VL n l') := by
  refine ACalls.wf (by kernel_rfl) fun hs => za3 [.cell 4 26] Tryz.func120 (by kernel_rfl) rfl rfl (Nat.le_of_ble_eq_true rfl) (by kernel_rfl) ?_
  have hone := hv.one
  have hln0 := hv.1
  have hyl := hp.1
  have o1 := (((((Ow.refl hs).push ⟨26, true, [.int .i64 n, v]⟩).push ⟨26, true, [.int .i64 0, .slice none 0 0]⟩).pushSl (k := 14) (n := 0) (ty := 69) (vs := ints []) rfl).push ⟨26, true, [.int .i64 0, .slice none 0 0]⟩).putRow 3 rfl (cs' := [.int .i64 n, .slice (some ⟨H.next + 2, 0, some 14⟩) 0 0])
  try simp (disch := first | omega | (simp only [L3] <;> omega)) only [Sall,evalOp,init,binA_s,binE,binI,unE,convE,okNil,builtE,gv,TD.isAgg,resV,↓reduceIte,Nat.reduceEqDiff,reduceCtorEq,Nat.reduceAdd,Nat.reduceMul,Nat.reduceLeDiff,za0,za1,Int.reduceEq,Int.reduceLT,Int.reduceLE,Nat.reduceLT,tiA,tiXA, hone, zaN]
  refine za7 (fun z t H' => ∃ (c : Nat) (u : Value) (l' : List Int), z = k - c ∧ c ≤ k ∧ t 6 = .int .i64 c ∧ t 1 = pv ∧ t 2 = .pointer (some ⟨H.next, 0, none⟩) ∧ t 4 = .pointer (some ⟨H.next + 1, 0, none⟩) ∧ t 5 = .pointer (some ⟨H.next + 3, 0, none⟩) ∧ VL n l' ∧
    Ow H H' [.row H.next ⟨26, true, [.int .i64 n, v]⟩, .row (H.next + 1) ⟨26, true, [.int .i64 0, .slice none 0 0]⟩, .sl 14 69 u c (ints l'), .row (H.next + 3) ⟨26, true, [.int .i64 n, u]⟩]) k ?_ ?_
  · refine ⟨0, .slice (some ⟨H.next + 2, 0, some 14⟩) 0 0, [], by omega, by omega, ?_⟩
    try simp (disch := first | omega | (simp only [L3] <;> omega)) only [Sall,evalOp,init,binA_s,binE,binI,unE,convE,okNil,builtE,gv,TD.isAgg,resV,↓reduceIte,Nat.reduceEqDiff,reduceCtorEq,Nat.reduceAdd,Nat.reduceMul,Nat.reduceLeDiff,za0,za1,Int.reduceEq,Int.reduceLT,Int.reduceLE,Nat.reduceLT,tiA,tiXA, Int.natCast_zero]
    exact ⟨VL.nil n, o1⟩
  · rintro z t H' ⟨c, u, l', hz, hc, h6, h1, h2, h4, h5, hV, o2⟩
    have g0 := (o2.rowAt 0 rfl).1
    have hv2 := hv.len
    try simp (disch := first | omega | (simp only [L3] <;> omega)) only [Sall,evalOp,init,binA_s,binE,binI,unE,convE,okNil,builtE,gv,TD.isAgg,resV,↓reduceIte,Nat.reduceEqDiff,reduceCtorEq,Nat.reduceAdd,Nat.reduceMul,Nat.reduceLeDiff,za0,za1,Int.reduceEq,Int.reduceLT,Int.reduceLE,Nat.reduceLT,tiA,tiXA, h6, h2, g0, hone, builtE, hv2]
    refine za6 (fun hh => ?_) (fun hh => ?_)
    · have o3 := (o2.push ⟨69, true, ints (List.replicate 14 0)⟩).putRow 4 rfl (cs' := ints (List.replicate 14 0))
      try simp (disch := first | omega | (simp only [L3] <;> omega)) only [Sall,evalOp,init,binA_s,binE,binI,unE,convE,okNil,builtE,gv,TD.isAgg,resV,↓reduceIte,Nat.reduceEqDiff,reduceCtorEq,Nat.reduceAdd,Nat.reduceMul,Nat.reduceLeDiff,za0,za1,Int.reduceEq,Int.reduceLT,Int.reduceLE,Nat.reduceLT,tiA,tiXA, h6]
      refine za7 (fun z2 t H2 => ∃ (a : Nat) (rd : List Int), z2 = n - a ∧ a ≤ n ∧ t 8 = .int .i64 a ∧ t 7 = .pointer (some ⟨H'.next, 0, none⟩) ∧ t 6 = .int .i64 c ∧ t 1 = pv ∧ t 2 = .pointer (some ⟨H.next, 0, none⟩) ∧ t 4 = .pointer (some ⟨H.next + 1, 0, none⟩) ∧ t 5 = .pointer (some ⟨H.next + 3, 0, none⟩) ∧ rd.length = 14 ∧ VL n rd ∧
        Ow H H2 [.row H.next ⟨26, true, [.int .i64 n, v]⟩, .row (H.next + 1) ⟨26, true, [.int .i64 0, .slice none 0 0]⟩, .sl 14 69 u c (ints l'), .row (H.next + 3) ⟨26, true, [.int .i64 n, u]⟩, .row H'.next ⟨69, true, ints rd⟩]) n ?_ ?_
      · refine ⟨0, List.replicate 14 0, by omega, by omega, ?_⟩
        try simp (disch := first | omega | (simp only [L3] <;> omega)) only [Sall,evalOp,init,binA_s,binE,binI,unE,convE,okNil,builtE,gv,TD.isAgg,resV,↓reduceIte,Nat.reduceEqDiff,reduceCtorEq,Nat.reduceAdd,Nat.reduceMul,Nat.reduceLeDiff,za0,za1,Int.reduceEq,Int.reduceLT,Int.reduceLE,Nat.reduceLT,tiA,tiXA, Int.natCast_zero, h6, h1, h2, h4, h5]
        exact ⟨VL.zeros hn.1 _, o3⟩
      · rintro z2 t H2 ⟨a, rd, hz2, ha, h8, h7, h6, h1, h2, h4, h5, hrl, hR, o4⟩
        have g0 := (o4.rowAt 0 rfl).1
        have g4 := (o4.rowAt 4 rfl).1
        try simp (disch := first | omega | (simp only [L3] <;> omega)) only [Sall,evalOp,init,binA_s,binE,binI,unE,convE,okNil,builtE,gv,TD.isAgg,resV,↓reduceIte,Nat.reduceEqDiff,reduceCtorEq,Nat.reduceAdd,Nat.reduceMul,Nat.reduceLeDiff,za0,za1,Int.reduceEq,Int.reduceLT,Int.reduceLE,Nat.reduceLT,tiA,tiXA, h8, h2, g0, hone]
        refine za6 (fun hh2 => ?_) (fun hh2 => ?_)
        · obtain ⟨i, o, uu, cc, r, rfl, hr, q1, hg, _⟩ := (hp.same (o4.old hs)).get (by omega)
          obtain ⟨i2, o2', u2, c2, r2, rfl, hr2, q2, hg2, _⟩ := (hv.same (o4.old hs)).get (by omega)
          have k1 := hg a (by omega)
          have k2 := hg2 (c * 14 + a) (by omega)
          rw [← Nat.add_assoc] at k2
          have b1 := hy.getD (j := a) (by omega)
          have b2 := hl.getD (j := c * 14 + a) (by omega)
          revert k1 k2 b1 b2
          generalize y.getD a 0 = x1
          generalize l.getD (c * 14 + a) 0 = x2
          intro k1 k2 b1 b2
          have k3 := hg x2.toNat (by omega)
          have b3 := hy.getD (j := x2.toNat) (by omega)
          try simp (disch := first | omega | (simp only [L3] <;> omega)) only [Sall,evalOp,init,binA_s,binE,binI,unE,convE,okNil,builtE,gv,TD.isAgg,resV,↓reduceIte,Nat.reduceEqDiff,reduceCtorEq,Nat.reduceAdd,Nat.reduceMul,Nat.reduceLeDiff,za0,za1,Int.reduceEq,Int.reduceLT,Int.reduceLE,Nat.reduceLT,tiA,tiXA, h8, h7, h6, h1, h2]
          refine zaR (by kernel_rfl) (by kernel_rfl) ?_
          try simp (disch := first | omega | (simp only [L3] <;> omega)) only [Sall,evalOp,init,binA_s,binE,binI,unE,convE,okNil,builtE,gv,TD.isAgg,resV,↓reduceIte,Nat.reduceEqDiff,reduceCtorEq,Nat.reduceAdd,Nat.reduceMul,Nat.reduceLeDiff,za0,za1,Int.reduceEq,Int.reduceLT,Int.reduceLE,Nat.reduceLT,tiA,tiXA, h8, h7, h6, h1, h2, g0, g4, hone, hr, hr2, k1, k2, k3, hrl, zaH, w64]
          (repeat refine And.intro (by omega) ?_)
          try simp (disch := first | omega | (simp only [L3] <;> omega)) only [Sall,evalOp,init,binA_s,binE,binI,unE,convE,okNil,builtE,gv,TD.isAgg,resV,↓reduceIte,Nat.reduceEqDiff,reduceCtorEq,Nat.reduceAdd,Nat.reduceMul,Nat.reduceLeDiff,za0,za1,Int.reduceEq,Int.reduceLT,Int.reduceLE,Nat.reduceLT,tiA,tiXA, h8, h7, h6, h1, h2, h4, h5, g0, g4, hone, hr, hr2, k1, k2, k3, hrl, zaH, w64]
          have o5 := o4.putRow 4 rfl (cs' := ints (rd.set x1.toNat (y.getD x2.toNat 0)))
          exact ⟨.inr (.inl (by kernel_rfl)), n - (a + 1), by omega, a + 1, _, rfl, by omega, by omega, by rw [List.length_set]; exact hrl, hR.set b3 _, o5⟩
        · have ou := o4.one 2 rfl
          have g3 := (o4.rowAt 3 rfl).1
          try simp (disch := first | omega | (simp only [L3] <;> omega)) only [Sall,evalOp,init,binA_s,binE,binI,unE,convE,okNil,builtE,gv,TD.isAgg,resV,↓reduceIte,Nat.reduceEqDiff,reduceCtorEq,Nat.reduceAdd,Nat.reduceMul,Nat.reduceLeDiff,za0,za1,Int.reduceEq,Int.reduceLT,Int.reduceLE,Nat.reduceLT,tiA,tiXA, h5, h7, g3, g4, ou, zaO, hrl, zbZ]
          (repeat refine And.intro (by omega) ?_)
          refine (o4.tmp ⟨69, true, ints rd⟩).app 2 (c := 1) (ms := ints rd) rfl rfl (by omega) (by rw [za2, hrl]) (by omega) (by decide) (by omega) ?_
          intro v' H3 n3 o6
          rw [zaU] at o6
          have g3' := (o6.rowAt 3 rfl).1
          have ou' := o6.one 2 rfl
          try simp (disch := first | omega | (simp only [L3] <;> omega)) only [Sall,evalOp,init,binA_s,binE,binI,unE,convE,okNil,builtE,gv,TD.isAgg,resV,↓reduceIte,Nat.reduceEqDiff,reduceCtorEq,Nat.reduceAdd,Nat.reduceMul,Nat.reduceLeDiff,za0,za1,Int.reduceEq,Int.reduceLT,Int.reduceLE,Nat.reduceLT,tiA,tiXA, h6, h1, h2, h4, h5, g3', ou', w64]
          have o7 := o6.putRow 3 rfl (cs' := [.int .i64 n, v'])
          exact ⟨k - (c + 1), by omega, c + 1, _, _, rfl, by omega, by omega, hV.app hR, Ow.left (L := [_, _, _, _]) o7⟩
    · have hck : c = k := by omega
      subst hck
      have g3 := (o2.rowAt 3 rfl).1
      have g1 := (o2.rowAt 1 rfl).1
      have ou := o2.one 2 rfl
      have o3 := o2.putRow 1 rfl (cs' := [.int .i64 n, u])
      try simp (disch := first | omega | (simp only [L3] <;> omega)) only [Sall,evalOp,init,binA_s,binE,binI,unE,convE,okNil,builtE,gv,TD.isAgg,resV,↓reduceIte,Nat.reduceEqDiff,reduceCtorEq,Nat.reduceAdd,Nat.reduceMul,Nat.reduceLeDiff,za0,za1,Int.reduceEq,Int.reduceLT,Int.reduceLE,Nat.reduceLT,tiA,tiXA, h4, h5, g3, g1, ou]
      exact ⟨u, l', rfl, o3.sub (fun _ => 2) (fun j hj => by
          obtain rfl : j = 0 := by simp at hj; omega
          rfl) (fun x y hx hy _ => by simp at hx hy; omega), hV⟩
end Go.Proofs.YtpienljnoaendaaGreat.A
end

section
set_option maxRecDepth 100000
set_option maxHeartbeats 2000000
namespace Go.Proofs.YtpienljnoaendaaGreat.A
open Go Go.Abs Go.RowKit
theorem zdR {P : Program} {A : Code} {Q : Exit → T → AH → Prop} {N : T → AH → Prop} {t : T} {H : AH} {b : Bool} (M : T → AH → Prop) (hf : b = false → M t H) (ht : b = true → awp P A (seqQ M Q) t H) (hN : ∀ t H, M t H → N t H) :
    condC (some (.bool b)) (awp P A (seqQ N Q) t H) (N t H) := by
  cases b with
  | false => exact hN _ _ (hf rfl)
  | true => exact zbP A _ _ t H (zdA hN fun _ _ _ h => h) (ht rfl)
end Go.Proofs.YtpienljnoaendaaGreat.A
end

section
set_option maxRecDepth 100000
set_option maxHeartbeats 2000000
namespace Go.Proofs.YtpienljnoaendaaGreat.A
open Go Go.Abs Go.RowKit
structure Dq (cv : Value) (nb si : Nat) (H H' : AH) (L : List Th) : Prop where
  ex : ∃ B, SrcB cv nb si H B ∧ Ow B H' L
section
variable {cv : Value} {nb si : Nat} {H H' : AH} {L : List Th}
theorem Dq.start (h : Src cv nb si H) (sc : Sc H) : Dq cv nb si H H [] := ⟨⟨H, SrcB.refl h, Ow.refl sc⟩⟩
theorem Dq.src (h : Dq cv nb si H H' L) (hn : si < H.next) : Src cv nb si H' := by
  obtain ⟨B, b, o⟩ := h.ex; exact Ow.srcAt o b hn
theorem Dq.code (h : Dq cv nb si H H' L) (hx : CodeX cv nb si H) (sc : Sc H) : CodeX cv nb si H' := by
  obtain ⟨B, b, o⟩ := h.ex; exact hx.later fun i r hi hr => Ow.oldX o b sc i r hi hr
theorem Dq.sc (h : Dq cv nb si H H' L) : Sc H' := by obtain ⟨B, b, o⟩ := h.ex; exact o.sc
theorem Dq.le (h : Dq cv nb si H H' L) : H.next ≤ H'.next := by obtain ⟨B, b, o⟩ := h.ex; have := b.next; have := o.next; omega
theorem Dq.old (h : Dq cv nb si H H' L) (sc : Sc H) : ∀ i r, i ≠ si → H.row i = some r → H'.row i = some r := by
  obtain ⟨B, b, o⟩ := h.ex; exact Ow.oldX o b sc
theorem Dq.next (h : Dq cv nb si H H' L) (hn : si < H.next) {H2 : AH} (k : SrcB cv nb si H' H2) : Dq cv nb si H H2 L := by
  obtain ⟨B, b, o⟩ := h.ex
  obtain ⟨B2, b2, o2⟩ := Ow.src o (by rw [b.next]; exact hn) k
  exact ⟨B2, b.trans b2, o2⟩
theorem Dq.call (h : Dq cv nb si H H' L) (hn : si < H.next) {H2 H3 : AH} {M : List Th} (k : SrcB cv nb si H' H2) (o3 : Ow H2 H3 M) : Dq cv nb si H H3 (L ++ M) := by
  obtain ⟨B, b, o⟩ := h.ex
  obtain ⟨B2, b2, o2⟩ := Ow.srcCall o (by rw [b.next]; exact hn) k o3
  exact ⟨B2, b.trans b2, o2⟩
theorem Dq.bind (h : Dq cv nb si H H' L) (hn : si < H.next) {H3 : AH} {M : List Th} (k : Dq cv nb si H' H3 M) : Dq cv nb si H H3 (L ++ M) := by
  obtain ⟨B, b, o⟩ := k.ex
  exact h.call hn b o
theorem Dq.calls (h : Dq cv nb si H H' L) {H3 : AH} {M : List Th} (o3 : Ow H' H3 M) : Dq cv nb si H H3 (L ++ M) := by
  obtain ⟨B, b, o⟩ := h.ex
  exact ⟨B, b, o.call o3⟩
theorem Dq.map (h : Dq cv nb si H H' L) {H2 : AH} {M : List Th} (f : ∀ B, Ow B H' L → Ow B H2 M) : Dq cv nb si H H2 M := by
  obtain ⟨B, b, o⟩ := h.ex
  exact ⟨B, b, f B o⟩
theorem Dq.push (h : Dq cv nb si H H' L) (r : Row) : Dq cv nb si H (H'.push r) (L ++ [.row H'.next r]) := h.map fun B o => o.push r
theorem Dq.tmp (h : Dq cv nb si H H' L) (r : Row) : Dq cv nb si H (H'.push r) L := h.map fun B o => o.tmp r
theorem Dq.left {M : List Th} (h : Dq cv nb si H H' (L ++ M)) : Dq cv nb si H H' L := h.map fun B o => o.left
theorem Dq.putRow (h : Dq cv nb si H H' L) (k : Nat) {i : Nat} {ty : TypeId} {b : Bool} {cs cs' : List Value} (hk : L[k]? = some (.row i ⟨ty, b, cs⟩)) : Dq cv nb si H (H'.setCells i cs') (L.set k (.row i ⟨ty, b, cs'⟩)) := h.map fun B o => o.putRow k hk
theorem Dq.rowAt (h : Dq cv nb si H H' L) (k : Nat) {i : Nat} {r : Row} (hk : L[k]? = some (.row i r)) : H'.row i = some r := by
  obtain ⟨B, b, o⟩ := h.ex
  exact (o.rowAt k hk).1
theorem Dq.rd (h : Dq cv nb si H H' L) (k : Nat) {z n : Nat} {ty : TypeId} {v : Value} {l : List Int} (hk : L[k]? = some (.sl z ty v n (ints l))) : Rd z H' v n l := by
  obtain ⟨B, b, o⟩ := h.ex
  exact o.rd k hk
theorem Dq.rd2 (h : Dq cv nb si H H' L) (k : Nat) {ty ty' : TypeId} {v : Value} {ll : List (List Int)} (hk : L[k]? = some (.sl2 (Value.int .i64) ty ty' v ll)) : Rd2 1 H' v ll := by
  obtain ⟨B, b, o⟩ := h.ex
  exact o.rd2 k hk
theorem Dq.one (h : Dq cv nb si H H' L) (k : Nat) {z n : Nat} {ty : TypeId} {v : Value} {vs : List Value} (hk : L[k]? = some (.sl z ty v n vs)) : v.oneCell' = true := by
  obtain ⟨B, b, o⟩ := h.ex
  exact o.one k hk
theorem Dq.capOne (h : Dq cv nb si H H' L) (k : Nat) {z n : Nat} {ty : TypeId} {v : Value} {vs : List Value} (hk : L[k]? = some (.cap z ty v n vs)) : v.oneCell' = true := by
  obtain ⟨B, b, o⟩ := h.ex
  exact o.capOne k hk
theorem Dq.capRs (h : Dq cv nb si H H' L) (k : Nat) {z n : Nat} {ty : TypeId} {v : Value} {l : List Int} (hk : L[k]? = some (.cap z ty v n (ints l))) : Rs z H' v n l := by
  obtain ⟨B, b, o⟩ := h.ex
  exact o.capRs k hk
end
theorem freeVL {n : Nat} (h : 0 < n) : VL n (freeL n) := fun y hy => by
  unfold freeL at hy
  rw [List.mem_map] at hy
  obtain ⟨a, _, rfl⟩ := hy
  split <;> omega
theorem l01Made_c (n : Nat) (v : Value) (ll : List (List Int)) (H : AH) (hn : 0 < n ∧ n ≤ 14) (hk : ll.length ≤ 4294967290) (hv : Rd2 1 H v ll) (hl : ∀ j, j < ll.length → (ll.getD j []).length = 2 ∧ VL n (ll.getD j [])) :
    ACalls Tryz.prog 285 [.int .i64 n, v] H (fun r H' => ∃ rd, r = .agg (ints rd).toArray ∧ rd.length = 14 ∧ VL n rd ∧ Ow H H' []) := by
  refine ACalls.wf (by kernel_rfl) fun hs => za3 [.cell 4 69] Tryz.func285 (by kernel_rfl) rfl rfl (Nat.le_of_ble_eq_true rfl) (by kernel_rfl) ?_
  have hone := hv.one
  have hlen := hv.len
  try simp (disch := first | omega | (simp only [L3] <;> omega)) only [Sall,evalOp,init,binA_s,binE,binI,unE,convE,okNil,builtE,gv,TD.isAgg,resV,↓reduceIte,Nat.reduceEqDiff,reduceCtorEq,Nat.reduceAdd,Nat.reduceMul,Nat.reduceLeDiff,za0,za1,Int.reduceEq,Int.reduceLT,Int.reduceLE,Nat.reduceLT,tiA,tiXA, true_and]
  have o1 := (Ow.refl hs).push ⟨69, true, ints (List.replicate 14 0)⟩
  revert o1
  generalize e1 : H.push ⟨69, true, ints (List.replicate 14 0)⟩ = H1
  intro o1
  refine (freeS_c n (by omega) H1).to ?_
  have hfl := zaD (n : Int)
  have o2 := (o1.push ⟨69, true, ints (List.replicate 14 0)⟩).putRow 1 rfl (cs' := ints (freeL n))
  try simp (disch := first | omega | (simp only [L3] <;> omega)) only [Sall,evalOp,init,binA_s,binE,binI,unE,convE,okNil,builtE,gv,TD.isAgg,resV,↓reduceIte,Nat.reduceEqDiff,reduceCtorEq,Nat.reduceAdd,Nat.reduceMul,Nat.reduceLeDiff,za0,za1,Int.reduceEq,Int.reduceLT,Int.reduceLE,Nat.reduceLT,tiA,tiXA, hfl]
  refine za7 (fun z t H' => ∃ (j : Nat) (rd : List Int), z = ll.length - j ∧ j ≤ ll.length ∧ t 6 = .int .i64 j ∧ t 1 = v ∧ t 5 = .pointer (some ⟨H1.next, 0, none⟩) ∧ t 4 = .pointer (some ⟨H.next, 0, none⟩) ∧ rd.length = 14 ∧ VL n rd ∧
    Ow H H' [.row H.next ⟨69, true, ints (List.replicate 14 0)⟩, .row H1.next ⟨69, true, ints rd⟩]) ll.length ?_ ?_
  · refine ⟨0, freeL n, by omega, by omega, ?_⟩
    try simp (disch := first | omega | (simp only [L3] <;> omega)) only [Sall,evalOp,init,binA_s,binE,binI,unE,convE,okNil,builtE,gv,TD.isAgg,resV,↓reduceIte,Nat.reduceEqDiff,reduceCtorEq,Nat.reduceAdd,Nat.reduceMul,Nat.reduceLeDiff,za0,za1,Int.reduceEq,Int.reduceLT,Int.reduceLE,Nat.reduceLT,tiA,tiXA, Int.natCast_zero]
    exact ⟨hfl, freeVL hn.1, o2⟩
  · rintro z t H' ⟨j, rd, hz, hj, h6, h1, h5, h4, hrl, hR, o3⟩
    have g0 := (o3.rowAt 0 rfl).1
    have g1 := (o3.rowAt 1 rfl).1
    try simp (disch := first | omega | (simp only [L3] <;> omega)) only [Sall,evalOp,init,binA_s,binE,binI,unE,convE,okNil,builtE,gv,TD.isAgg,resV,↓reduceIte,Nat.reduceEqDiff,reduceCtorEq,Nat.reduceAdd,Nat.reduceMul,Nat.reduceLeDiff,za0,za1,Int.reduceEq,Int.reduceLT,Int.reduceLE,Nat.reduceLT,tiA,tiXA, h6, h1, hlen, builtE]
    refine za6 (fun hh => ?_) (fun hh => ?_)
    · obtain ⟨ai, ao, au, ac, ar, ax, am, rfl, a1, a2, a3, a4⟩ := hv.get (j := j) (by omega)
      have a5 := a3.lenK1
      obtain ⟨l2, l3⟩ := hl j (by omega)
      rw [← a5] at l2
      subst l2
      obtain ⟨bi, bo, bu, bc, br, rfl, b1, b2, b3, b4⟩ := a3.get (by omega)
      have k0 : br.cells[bo + Int.toNat 0]? = _ := b3 0 (by omega)
      have k1 : br.cells[bo + Int.toNat 1]? = _ := b3 1 (by omega)
      have c0 := l3.getD (j := 0) (by omega)
      have c1 := l3.getD (j := 1) (by omega)
      revert k0 k1 c0 c1
      generalize (ll.getD j []).getD 0 0 = x0
      generalize (ll.getD j []).getD 1 0 = x1
      intro k0 k1 c0 c1
      have a1' := o3.old hs _ _ a1
      have b1' := o3.old hs _ _ b1
      try simp (disch := first | omega | (simp only [L3] <;> omega)) only [Sall,evalOp,init,binA_s,binE,binI,unE,convE,okNil,builtE,gv,TD.isAgg,resV,↓reduceIte,Nat.reduceEqDiff,reduceCtorEq,Nat.reduceAdd,Nat.reduceMul,Nat.reduceLeDiff,za0,za1,Int.reduceEq,Int.reduceLT,Int.reduceLE,Nat.reduceLT,tiA,tiXA, h6, h1, h5]
      refine zaR (by kernel_rfl) (by kernel_rfl) ?_
      try simp (disch := first | omega | (simp only [L3] <;> omega)) only [Sall,evalOp,init,binA_s,binE,binI,unE,convE,okNil,builtE,gv,TD.isAgg,resV,↓reduceIte,Nat.reduceEqDiff,reduceCtorEq,Nat.reduceAdd,Nat.reduceMul,Nat.reduceLeDiff,za0,za1,Int.reduceEq,Int.reduceLT,Int.reduceLE,Nat.reduceLT,tiA,tiXA, h6, h1, h5, g1, a1', a2, a4, b1', k0, k1, hrl, zaH]
      (repeat refine And.intro (by omega) ?_)
      try simp (disch := first | omega | (simp only [L3] <;> omega)) only [Sall,evalOp,init,binA_s,binE,binI,unE,convE,okNil,builtE,gv,TD.isAgg,resV,↓reduceIte,Nat.reduceEqDiff,reduceCtorEq,Nat.reduceAdd,Nat.reduceMul,Nat.reduceLeDiff,za0,za1,Int.reduceEq,Int.reduceLT,Int.reduceLE,Nat.reduceLT,tiA,tiXA, h6, h1, h5, g1, a1', a2, a4, b1', k0, k1, hrl, zaH]
      have o4 := o3.putRow 1 rfl (cs' := ints (rd.set x0.toNat x1))
      have g1' := (o4.rowAt 1 rfl).1
      refine ⟨.inr (.inl (by kernel_rfl)), ?_⟩
      generalize H'.setCells H1.next (ints (rd.set x0.toNat x1)) = H2 at o4 g1' ⊢
      have a1' := o4.old hs _ _ a1
      have b1' := o4.old hs _ _ b1
      have hrl2 : (rd.set x0.toNat x1).length = 14 := by rw [List.length_set]; exact hrl
      refine zaR (by kernel_rfl) (by kernel_rfl) ?_
      try simp (disch := first | omega | (simp only [L3] <;> omega)) only [Sall,evalOp,init,binA_s,binE,binI,unE,convE,okNil,builtE,gv,TD.isAgg,resV,↓reduceIte,Nat.reduceEqDiff,reduceCtorEq,Nat.reduceAdd,Nat.reduceMul,Nat.reduceLeDiff,za0,za1,Int.reduceEq,Int.reduceLT,Int.reduceLE,Nat.reduceLT,tiA,tiXA, h6, h1, h5, g1', a1', a2, a4, b1', k0, k1, hrl2, zaH]
      (repeat refine And.intro (by omega) ?_)
      try simp (disch := first | omega | (simp only [L3] <;> omega)) only [Sall,evalOp,init,binA_s,binE,binI,unE,convE,okNil,builtE,gv,TD.isAgg,resV,↓reduceIte,Nat.reduceEqDiff,reduceCtorEq,Nat.reduceAdd,Nat.reduceMul,Nat.reduceLeDiff,za0,za1,Int.reduceEq,Int.reduceLT,Int.reduceLE,Nat.reduceLT,tiA,tiXA, h6, h1, h5, h4, g1', a1', a2, a4, b1', k0, k1, hrl2, zaH, w64]
      exact ⟨.inr (.inl (by kernel_rfl)), ll.length - (j + 1), by omega, j + 1, (rd.set x0.toNat x1).set x1.toNat x0, rfl, by omega, by omega, by rw [List.length_set]; exact hrl2, (hR.set c1 _).set c0 _, o4.putRow 1 rfl⟩
    · have hje : j = ll.length := by omega
      subst hje
      try simp (disch := first | omega | (simp only [L3] <;> omega)) only [Sall,evalOp,init,binA_s,binE,binI,unE,convE,okNil,builtE,gv,TD.isAgg,resV,↓reduceIte,Nat.reduceEqDiff,reduceCtorEq,Nat.reduceAdd,Nat.reduceMul,Nat.reduceLeDiff,za0,za1,Int.reduceEq,Int.reduceLT,Int.reduceLE,Nat.reduceLT,tiA,tiXA, h4, h5, g0, g1, hrl]
      exact ⟨rd, rfl, hrl, hR, Ow.left (L := []) (o3.putRow 0 rfl)⟩
theorem zdL (cv : Value) (nb si n : Nat) (H : AH) (hn : 0 < n ∧ n ≤ 14) (hnb : nb ≤ 4611686018427387904) (hs : Src cv nb si H) (hc : CodeX cv nb si H) :
    ACalls Tryz.prog 221 [.pointer (some ⟨si, 0, none⟩), .int .i64 n] H (fun r H' => ∃ rd, r = .agg (ints rd).toArray ∧ rd.length = 14 ∧ VL n rd ∧ Dq cv nb si H H' []) := by
  refine ACalls.wf (by kernel_rfl) fun hsc => za3 [.cell 4 69] Tryz.func221 (by kernel_rfl) rfl rfl (Nat.le_of_ble_eq_true rfl) (by kernel_rfl) ?_
  obtain ⟨_, _, hrow, _⟩ := id hs
  have hsi := hsc _ _ hrow
  clear hrow
  have d0 := (Dq.start hs hsc).push ⟨69, true, ints (List.replicate 14 0)⟩
  try simp (disch := first | omega | (simp only [L3] <;> omega)) only [Sall,evalOp,init,binA_s,binE,binI,unE,convE,okNil,builtE,gv,TD.isAgg,resV,↓reduceIte,Nat.reduceEqDiff,reduceCtorEq,Nat.reduceAdd,Nat.reduceMul,Nat.reduceLeDiff,za0,za1,Int.reduceEq,Int.reduceLT,Int.reduceLE,Nat.reduceLT,tiA,tiXA, true_and]
  generalize H.push ⟨69, true, ints (List.replicate 14 0)⟩ = H1 at d0 ⊢
  refine (zbQ cv nb si n H1 (by omega) hnb (d0.src hsi) (d0.code hc hsc)).mono ?_
  rintro u H2 ⟨l, B2, k2, o2, hp⟩
  rw [Int.toNat_natCast] at o2 hp
  have d1 := d0.call hsi k2 o2
  obtain ⟨ui, _, _, rfl, _⟩ := o2.get 0 rfl hn.1
  refine Holds.mp ?_
  try simp (disch := first | omega | (simp only [L3] <;> omega)) only [Sall,evalOp,init,binA_s,binE,binI,unE,convE,okNil,builtE,gv,TD.isAgg,resV,↓reduceIte,Nat.reduceEqDiff,reduceCtorEq,Nat.reduceAdd,Nat.reduceMul,Nat.reduceLeDiff,za0,za1,Int.reduceEq,Int.reduceLT,Int.reduceLE,Nat.reduceLT,tiA,tiXA, zaN]
  have d2 := d1.map fun B o => o.pushSl2 (Value.int .i64) 33 2
  generalize H2.push ⟨33, true, []⟩ = H3 at d2 ⊢
  refine (zcE cv nb si 3 H3 (by omega) hnb (d2.src hsi) (d2.code hc hsc)).ex ?_
  rintro x H4 ⟨hx, hS⟩
  have d3 := d2.next hsi hS
  refine Holds.mp ?_
  try simp (disch := first | omega | (simp only [L3] <;> omega)) only [Sall,evalOp,init,binA_s,binE,binI,unE,convE,okNil,builtE,gv,TD.isAgg,resV,↓reduceIte,Nat.reduceEqDiff,reduceCtorEq,Nat.reduceAdd,Nat.reduceMul,Nat.reduceLeDiff,za0,za1,Int.reduceEq,Int.reduceLT,Int.reduceLE,Nat.reduceLT,tiA,tiXA, true_and]
  obtain ⟨w0, ew0⟩ : ∃ w0, w0 = Value.slice (some ⟨H2.next, 0, some 1⟩) 0 0 := ⟨_, rfl⟩
  rw [← ew0] at d3 ⊢
  generalize ((x : Int) == 0) = few
  refine za7 (fun z t H' => ∃ (i : Nat) (w : Value) (ll : List (List Int)), z = n - i ∧ t 8 = .int .i64 i ∧ t 7 = .bool few ∧ t 6 = w ∧ t 5 = .slice (some ⟨ui, 0, some 1⟩) n n ∧ t 4 = .pointer (some ⟨H.next, 0, none⟩) ∧ t 1 = .int .i64 n ∧ t 0 = .pointer (some ⟨si, 0, none⟩) ∧ i ≤ n + 1 ∧ ll.length ≤ i ∧ (∀ j, j < ll.length → (ll.getD j []).length = 2 ∧ VL n (ll.getD j [])) ∧
    Dq cv nb si H H' [.row H.next ⟨69, true, ints (List.replicate 14 0)⟩, .sl 1 2 (.slice (some ⟨ui, 0, some 1⟩) n n) n (ints l), .sl2 (Value.int .i64) 33 2 w ll]) n ?_ ?_
  · refine ⟨0, w0, [], by omega, ?_⟩
    try simp (disch := first | omega | (simp only [L3] <;> omega)) only [Sall,evalOp,init,binA_s,binE,binI,unE,convE,okNil,builtE,gv,TD.isAgg,resV,↓reduceIte,Nat.reduceEqDiff,reduceCtorEq,Nat.reduceAdd,Nat.reduceMul,Nat.reduceLeDiff,za0,za1,Int.reduceEq,Int.reduceLT,Int.reduceLE,Nat.reduceLT,tiA,tiXA, Int.natCast_zero]
    first | exact d3 | exact ⟨by omega, d3⟩ | exact ⟨fun j hj => by simp at hj, d3⟩ | exact ⟨by omega, fun j hj => by simp at hj, d3⟩
  · rintro z t H' ⟨i, w, ll, hz, h8, h7, h6, h5, h4, h1, h0, hi, hll, hl2, d4⟩
    have hw1 := (d4.rd2 2 rfl).one
    try simp (disch := first | omega | (simp only [L3] <;> omega)) only [Sall,evalOp,init,binA_s,binE,binI,unE,convE,okNil,builtE,gv,TD.isAgg,resV,↓reduceIte,Nat.reduceEqDiff,reduceCtorEq,Nat.reduceAdd,Nat.reduceMul,Nat.reduceLeDiff,za0,za1,Int.reduceEq,Int.reduceLT,Int.reduceLE,Nat.reduceLT,tiA,tiXA, h8, h1, w64]
    refine za6 (fun hh => ?_) (fun hh => ?_)
    · cases few with
      | false =>
        try simp (disch := first | omega | (simp only [L3] <;> omega)) only [Sall,evalOp,init,binA_s,binE,binI,unE,convE,okNil,builtE,gv,TD.isAgg,resV,↓reduceIte,Nat.reduceEqDiff,reduceCtorEq,Nat.reduceAdd,Nat.reduceMul,Nat.reduceLeDiff,za0,za1,Int.reduceEq,Int.reduceLT,Int.reduceLE,Nat.reduceLT,tiA,tiXA, h7]
        obtain ⟨Ba, hBa, oa⟩ := id d4.ex
        have ra := (oa.getV 1 rfl).2.2
        have hpl := hp.len
        have k0 := ints_get? l i (by omega)
        have k1 := ints_get? l (i + 1) (by omega)
        have c0 := VL.getD hp.rng (j := i) (by omega)
        have c1 := VL.getD hp.rng (j := i + 1) (by omega)
        have e1 : ((i : Int) + 1).toNat = i + 1 := by omega
        have zz2 : zeros 2 [.int .i64 0] = [.int .i64 0, .int .i64 0] := rfl
        have zs1 : zeros 1 [.slice none 0 0] = [.slice none 0 0] := rfl
        revert k0 k1 c0 c1
        generalize l.getD i 0 = x0
        generalize l.getD (i + 1) 0 = x1
        intro k0 k1 c0 c1
        try simp (disch := first | omega | (simp only [L3] <;> omega)) only [Sall,evalOp,init,binA_s,binE,binI,unE,convE,okNil,builtE,gv,TD.isAgg,resV,↓reduceIte,Nat.reduceEqDiff,reduceCtorEq,Nat.reduceAdd,Nat.reduceMul,Nat.reduceLeDiff,za0,za1,Int.reduceEq,Int.reduceLT,Int.reduceLE,Nat.reduceLT,tiA,tiXA, h8, h6, h5]
        refine zaR (by kernel_rfl) (by kernel_rfl) ?_
        try simp (disch := first | omega | (simp only [L3] <;> omega)) only [Sall,evalOp,init,binA_s,binE,binI,unE,convE,okNil,builtE,gv,TD.isAgg,resV,↓reduceIte,Nat.reduceEqDiff,reduceCtorEq,Nat.reduceAdd,Nat.reduceMul,Nat.reduceLeDiff,za0,za1,Int.reduceEq,Int.reduceLT,Int.reduceLE,Nat.reduceLT,tiA,tiXA, h8, h6, h5, ra, k0, k1, e1, hpl, w64, zz2, zs1, zaO]
        (repeat refine And.intro (by omega) ?_)
        refine ⟨.inr (.inr (oa.sc.le _)), ?_⟩
        have ob := oa.pushSl (k := 1) (n := 2) (ty := 2) (vs := ints [x0, x1]) rfl
        try simp (disch := first | omega | (simp only [L3] <;> omega)) only [Sall,evalOp,init,binA_s,binE,binI,unE,convE,okNil,builtE,gv,TD.isAgg,resV,↓reduceIte,Nat.reduceEqDiff,reduceCtorEq,Nat.reduceAdd,Nat.reduceMul,Nat.reduceLeDiff,za0,za1,Int.reduceEq,Int.reduceLT,Int.reduceLE,Nat.reduceLT,tiA,tiXA, h8, h6, h5, ra, k0, k1, e1, hpl, w64, zz2, zs1, zaO]
        (repeat refine And.intro (by omega) ?_)
        refine ⟨.inr (.inr (ob.sc.le _)), ?_⟩
        refine (ob.tmp ⟨33, true, [.slice (some ⟨H'.next, 0, some 1⟩) 2 2]⟩).app2 (l := [x0, x1]) 2 3 rfl rfl (by omega) rfl (by decide) (by omega) ?_
        intro v' Hb nb2 oc
        have oc2 : Ow Ba Hb ([.row H.next ⟨69, true, ints (List.replicate 14 0)⟩, .sl 1 2 (.slice (some ⟨ui, 0, some 1⟩) n n) n (ints l), .sl2 (Value.int .i64) 33 2 v' (ll ++ [[x0, x1]])] ++ [.no]) := oc
        refine ⟨.inr (.inl (by kernel_rfl)), ?_⟩
        try simp (disch := first | omega | (simp only [L3] <;> omega)) only [Sall,evalOp,init,binA_s,binE,binI,unE,convE,okNil,builtE,gv,TD.isAgg,resV,↓reduceIte,Nat.reduceEqDiff,reduceCtorEq,Nat.reduceAdd,Nat.reduceMul,Nat.reduceLeDiff,za0,za1,Int.reduceEq,Int.reduceLT,Int.reduceLE,Nat.reduceLT,tiA,tiXA, h8, h7, h6, h5, h4, h1, h0, w64]
        exact ⟨n - (i + 2), by omega, i + 2, v', ll ++ [[x0, x1]], rfl, rfl, rfl, by omega, by simp; omega, fun j hj => by
          by_cases hj2 : j < ll.length
          · rw [List.getD_eq_getElem?_getD, List.getElem?_append_left hj2, ← List.getD_eq_getElem?_getD]; exact hl2 j hj2
          · obtain rfl : j = ll.length := by simp at hj; omega
            have e : (ll ++ [[x0, x1]]).getD ll.length [] = [x0, x1] := by simp [List.getD_eq_getElem?_getD]
            rw [e]
            exact ⟨rfl, fun y hy => by
              simp only [List.mem_cons, List.not_mem_nil, or_false] at hy
              rcases hy with rfl | rfl <;> omega⟩, ⟨⟨Ba, hBa, oc2.left⟩⟩⟩
      | true =>
        try simp (disch := first | omega | (simp only [L3] <;> omega)) only [Sall,evalOp,init,binA_s,binE,binI,unE,convE,okNil,builtE,gv,TD.isAgg,resV,↓reduceIte,Nat.reduceEqDiff,reduceCtorEq,Nat.reduceAdd,Nat.reduceMul,Nat.reduceLeDiff,za0,za1,Int.reduceEq,Int.reduceLT,Int.reduceLE,Nat.reduceLT,tiA,tiXA, h7, h0]
        refine (zcE cv nb si 2 H' (by omega) hnb (d4.src hsi) (d4.code hc hsc)).ex ?_
        rintro y H5 ⟨hy, hS5⟩
        have d5 := d4.next hsi hS5
        refine Holds.mp ?_
        obtain ⟨bb, ebb⟩ : ∃ bb, ((y : Int) == 0) = bb := ⟨_, rfl⟩
        cases bb with
        | true =>
          try simp (disch := first | omega | (simp only [L3] <;> omega)) only [Sall,evalOp,init,binA_s,binE,binI,unE,convE,okNil,builtE,gv,TD.isAgg,resV,↓reduceIte,Nat.reduceEqDiff,reduceCtorEq,Nat.reduceAdd,Nat.reduceMul,Nat.reduceLeDiff,za0,za1,Int.reduceEq,Int.reduceLT,Int.reduceLE,Nat.reduceLT,tiA,tiXA, h7, h0, ebb]
          obtain ⟨Ba, hBa, oa⟩ := id d5.ex
          have ra := (oa.getV 1 rfl).2.2
          have hpl := hp.len
          have k0 := ints_get? l i (by omega)
          have k1 := ints_get? l (i + 1) (by omega)
          have c0 := VL.getD hp.rng (j := i) (by omega)
          have c1 := VL.getD hp.rng (j := i + 1) (by omega)
          have e1 : ((i : Int) + 1).toNat = i + 1 := by omega
          have zz2 : zeros 2 [.int .i64 0] = [.int .i64 0, .int .i64 0] := rfl
          have zs1 : zeros 1 [.slice none 0 0] = [.slice none 0 0] := rfl
          revert k0 k1 c0 c1
          generalize l.getD i 0 = x0
          generalize l.getD (i + 1) 0 = x1
          intro k0 k1 c0 c1
          try simp (disch := first | omega | (simp only [L3] <;> omega)) only [Sall,evalOp,init,binA_s,binE,binI,unE,convE,okNil,builtE,gv,TD.isAgg,resV,↓reduceIte,Nat.reduceEqDiff,reduceCtorEq,Nat.reduceAdd,Nat.reduceMul,Nat.reduceLeDiff,za0,za1,Int.reduceEq,Int.reduceLT,Int.reduceLE,Nat.reduceLT,tiA,tiXA, h8, h6, h5]
          refine zaR (by kernel_rfl) (by kernel_rfl) ?_
          try simp (disch := first | omega | (simp only [L3] <;> omega)) only [Sall,evalOp,init,binA_s,binE,binI,unE,convE,okNil,builtE,gv,TD.isAgg,resV,↓reduceIte,Nat.reduceEqDiff,reduceCtorEq,Nat.reduceAdd,Nat.reduceMul,Nat.reduceLeDiff,za0,za1,Int.reduceEq,Int.reduceLT,Int.reduceLE,Nat.reduceLT,tiA,tiXA, h8, h6, h5, ra, k0, k1, e1, hpl, w64, zz2, zs1, zaO]
          (repeat refine And.intro (by omega) ?_)
          refine ⟨.inr (.inr (oa.sc.le _)), ?_⟩
          have ob := oa.pushSl (k := 1) (n := 2) (ty := 2) (vs := ints [x0, x1]) rfl
          try simp (disch := first | omega | (simp only [L3] <;> omega)) only [Sall,evalOp,init,binA_s,binE,binI,unE,convE,okNil,builtE,gv,TD.isAgg,resV,↓reduceIte,Nat.reduceEqDiff,reduceCtorEq,Nat.reduceAdd,Nat.reduceMul,Nat.reduceLeDiff,za0,za1,Int.reduceEq,Int.reduceLT,Int.reduceLE,Nat.reduceLT,tiA,tiXA, h8, h6, h5, ra, k0, k1, e1, hpl, w64, zz2, zs1, zaO]
          (repeat refine And.intro (by omega) ?_)
          refine ⟨.inr (.inr (ob.sc.le _)), ?_⟩
          refine (ob.tmp ⟨33, true, [.slice (some ⟨H5.next, 0, some 1⟩) 2 2]⟩).app2 (l := [x0, x1]) 2 3 rfl rfl (by omega) rfl (by decide) (by omega) ?_
          intro v' Hb nb2 oc
          have oc2 : Ow Ba Hb ([.row H.next ⟨69, true, ints (List.replicate 14 0)⟩, .sl 1 2 (.slice (some ⟨ui, 0, some 1⟩) n n) n (ints l), .sl2 (Value.int .i64) 33 2 v' (ll ++ [[x0, x1]])] ++ [.no]) := oc
          refine ⟨.inr (.inl (by kernel_rfl)), ?_⟩
          try simp (disch := first | omega | (simp only [L3] <;> omega)) only [Sall,evalOp,init,binA_s,binE,binI,unE,convE,okNil,builtE,gv,TD.isAgg,resV,↓reduceIte,Nat.reduceEqDiff,reduceCtorEq,Nat.reduceAdd,Nat.reduceMul,Nat.reduceLeDiff,za0,za1,Int.reduceEq,Int.reduceLT,Int.reduceLE,Nat.reduceLT,tiA,tiXA, h8, h7, h6, h5, h4, h1, h0, w64]
          exact ⟨n - (i + 2), by omega, i + 2, v', ll ++ [[x0, x1]], rfl, rfl, rfl, by omega, by simp; omega, fun j hj => by
            by_cases hj2 : j < ll.length
            · rw [List.getD_eq_getElem?_getD, List.getElem?_append_left hj2, ← List.getD_eq_getElem?_getD]; exact hl2 j hj2
            · obtain rfl : j = ll.length := by simp at hj; omega
              have e : (ll ++ [[x0, x1]]).getD ll.length [] = [x0, x1] := by simp [List.getD_eq_getElem?_getD]
              rw [e]
              exact ⟨rfl, fun y hy => by
                simp only [List.mem_cons, List.not_mem_nil, or_false] at hy
                rcases hy with rfl | rfl <;> omega⟩, ⟨⟨Ba, hBa, oc2.left⟩⟩⟩
        | false =>
          try simp (disch := first | omega | (simp only [L3] <;> omega)) only [Sall,evalOp,init,binA_s,binE,binI,unE,convE,okNil,builtE,gv,TD.isAgg,resV,↓reduceIte,Nat.reduceEqDiff,reduceCtorEq,Nat.reduceAdd,Nat.reduceMul,Nat.reduceLeDiff,za0,za1,Int.reduceEq,Int.reduceLT,Int.reduceLE,Nat.reduceLT,tiA,tiXA, ebb, h8, h7, h6, h5, h4, h1, h0, w64]
          exact ⟨n - (i + 2), by omega, i + 2, w, ll, rfl, rfl, rfl, by omega, by omega, hl2, d5⟩
    · try simp (disch := first | omega | (simp only [L3] <;> omega)) only [Sall,evalOp,init,binA_s,binE,binI,unE,convE,okNil,builtE,gv,TD.isAgg,resV,↓reduceIte,Nat.reduceEqDiff,reduceCtorEq,Nat.reduceAdd,Nat.reduceMul,Nat.reduceLeDiff,za0,za1,Int.reduceEq,Int.reduceLT,Int.reduceLE,Nat.reduceLT,tiA,tiXA, h1, h6, hw1]
      refine (l01Made_c n w ll H' hn (by omega) (d4.rd2 2 rfl) hl2).ex ?_
      rintro rd H6 ⟨hrl, hR, o6⟩
      have d6 := d4.calls o6
      have g0 := d6.rowAt 0 rfl
      refine Holds.mp ?_
      try simp (disch := first | omega | (simp only [L3] <;> omega)) only [Sall,evalOp,init,binA_s,binE,binI,unE,convE,okNil,builtE,gv,TD.isAgg,resV,↓reduceIte,Nat.reduceEqDiff,reduceCtorEq,Nat.reduceAdd,Nat.reduceMul,Nat.reduceLeDiff,za0,za1,Int.reduceEq,Int.reduceLT,Int.reduceLE,Nat.reduceLT,tiA,tiXA, h4, g0, hrl]
      exact ⟨rd, rfl, hrl, hR, Dq.left (L := []) (d6.putRow 0 rfl)⟩
end Go.Proofs.YtpienljnoaendaaGreat.A
end

section
namespace Go.Abs
open Go Go.RowKit
structure LES (S : Nat → Prop) (H H' : AH) : Prop where
  next : H.next ≤ H'.next
  row : ∀ i r, S i → H.row i = some r → H'.row i = some r
theorem LES.refl (S : Nat → Prop) (H : AH) : LES S H H := ⟨Nat.le_refl _, fun _ _ _ h => h⟩
theorem LE.les {S : Nat → Prop} {H H' : AH} (h : LE H H') : LES S H H' := ⟨h.next, fun i r _ => h.row i r⟩
def loadOk (S : Nat → Prop) (t : T) : Op → Prop
  | .load _ a => match evo t a with | some (.pointer (some ⟨i, _, _⟩)) => S i | _ => True
  | _ => True
def Safe (P : Program) (S : Nat → Prop) (t : T) (op : Op) : Prop := ∀ H H' v, LES S H H' → yl (evalOp P t H op) v → yl (evalOp P t H' op) v
theorem safe_of {P : Program} {S : Nat → Prop} {t : T} {op : Op} (hq : za0 op = true) (h : loadOk S t op) : Safe P S t op := by
  intro H H' v hle h
  by_cases hb : za1 op = true
  · rw [zgN P t H H' op hb]; exact yl_setH _ h
  · cases op with
    | load ty a =>
      rename_i hS
      simp only [evalOp] at h ⊢
      cases hI : ti P ty with
      | none => simp only [hI] at h; exact h.elim
      | some I =>
        simp only [hI, zb0] at h ⊢
        cases hv : evo t a with
        | none => simp only [hv] at h; exact h.elim
        | some u =>
          simp only [hv, zb0] at h ⊢
          unfold asP at h ⊢
          split at h
          · rename_i i o
            unfold loadOk at hS
            simp only [hv] at hS
            cases hr : H.row i with
            | none => simp only [hr] at h; exact h.elim
            | some r =>
              have hr2 := hle.row i r hS hr
              simp only [hr, hr2, zb0] at h ⊢
              split at h
              · rename_i hd; rw [if_pos hd]; exact h
              · rename_i hd
                rw [if_neg hd]
                cases hx : r.cells[o]? with
                | none => simp only [hx] at h; exact h.elim
                | some x => simp only [hx, zb0] at h ⊢; exact h
          · exact h.elim
    | _ => simp_all [za0, za1]
theorem Safe.upd {P : Program} {S : Nat → Prop} {ops : Array Oper} {o : Oper} {t : T} {u : Value} {d : Option Nat} (h : ∀ i, d = some i → i ∉ o.looksAt ops) (k : Safe P S t o.op) : Safe P S (updO t d u) o.op := by
  intro H H' v hle
  rw [zc1 o h, zc1 o h]
  exact k H H' v hle
theorem aYield.safe {P : Program} {S : Nat → Prop} {ops : Array Oper} {o : Oper} {t : T} {H H' : AH} {v : Value} (hs : Safe P S t o.op) (hle : LES S H H') (h : aYield P ops o t H v) : aYield P ops o t H' v := by
  unfold aYield at *
  split at h
  · rename_i hg; exact hs _ _ _ hle h
  · rename_i g hg; exact zb5 h (hs _ _ _ hle) id
def AAnyS (P : Program) (ops : Array Oper) (S : Nat → Prop) (Q : T → AH → Prop) : Nat → Array Bool → T → AH → Prop
  | 0, listed, t, H => Region.ready .any ops listed = [] ∧ Q t H
  | f + 1, listed, t, H => (Region.ready .any ops listed = [] → Q t H) ∧
    ∀ i ∈ Region.ready .any ops listed, aStep P ops.toList i t H fun t' H' => (sinkB ops i = true ∨ LES S H H') ∧ AAnyS P ops S Q f (listed.setIfInBounds i true) t' H'
theorem zfV {P : Program} {ops : Array Oper} {S : Nat → Prop} {Q : T → AH → Prop} {q : Nat} {oq : Oper} {v : Value} (hoq : ops[q]? = some oq) (hqt : za0 oq.op = true) :
    ∀ (f : Nat) (listed : Array Bool) (t : T) (H : AH), Closed ops listed →
      (∀ j oj, ops[j]? = some oj → j ≠ q → listed.getD j true = false → (∀ e ∈ oj.after, Region.binds .any e = true → e.on ≠ q) → oq.apart ops oj = true) →
      q ∈ Region.ready .any ops listed → Safe P S t oq.op → aYield P ops oq t H v → AAnyS P ops S Q f (listed.setIfInBounds q true) (updO t oq.dst v) H → AAnyS P ops S Q (f + 1) listed t H := by
  intro f
  induction f with
  | zero =>
    intro listed t H hc _ hr hsf hy hA
    refine ⟨fun h => (by rw [h] at hr; cases hr), fun j hj => ?_⟩
    by_cases hjq : j = q
    · subst hjq; exact hy.step hoq hqt ⟨.inr (LES.refl _ _), hA⟩
    · have := ready_mono hj hjq
      rw [hA.1] at this
      cases this
  | succ f ih =>
    intro listed t H hc hfree hr hsf hy hA
    refine ⟨fun h => (by rw [h] at hr; cases hr), fun j hj => ?_⟩
    by_cases hjq : j = q
    · subst hjq; exact hy.step hoq hqt ⟨.inr (LES.refl _ _), hA⟩
    · have h1 := hA.2 j (ready_mono hj hjq)
      obtain ⟨hjun, oj, hoj, hall⟩ := ready_iff.1 hj
      obtain ⟨hqun, oq', hoq', hallq⟩ := ready_iff.1 hr
      have : oq' = oq := Option.some.inj (hoq'.symm.trans hoq)
      subst this
      have hqf : listed.getD q false = false := zcG hqun
      have hjf : listed.getD j false = false := zcG hjun
      have hnot : ∀ e ∈ oj.after, Region.binds .any e = true → e.on ≠ q := fun e he hb heq => by
        have h1 := hall e he hb
        rw [heq, hqf] at h1; cases h1
      have hap := hfree j oj hoj hjq hjun hnot
      obtain ⟨_, _, h3⟩ := Oper.apart_spec hap
      have h2 := zhY hoj hap h1
      refine zaQ h2 fun t' H' hk => ?_
      obtain ⟨⟨u, rfl⟩, hs, hk⟩ := hk
      refine ⟨hs, ih (listed.setIfInBounds j true) _ H' (hc.set hj) ?_ (ready_mono hr (Ne.symm hjq)) (hsf.upd h3) ?_ ?_⟩
      · intro k ok hk2 hkq hun hno
        refine hfree k ok hk2 hkq ?_ hno
        by_cases hjk : j = k
        · subst hjk; exact hjun
        · rw [getD_set_ne true hjk] at hun; exact hun
      · by_cases hb : za1 oq'.op = true
        · exact (hy.later (H' := H') hqt (.inl hb)).upd h3
        · refine (hy.safe (H' := H') hsf ?_).upd h3
          rcases hs with hs | hs
          · rcases zgZ hs hoq (Ne.symm hjq) hqt (by simpa using hb) with hbf | hbf
            · have := hc.bef ops.size j oj hoj hall hbf
              rw [hqf] at this; cases this
            · have := hc.bef ops.size q oq' hoq hallq hbf
              rw [hjf] at this; cases this
          · exact hs
      · rw [Array.setIfInBounds_comm _ _ hjq]
        exact hk
def ze6 (P : Program) (ops : Array Oper) (S : Nat → Prop) (Q : T → AH → Prop) : List Nat → T → AH → Prop
  | [], t, H => Q t H
  | i :: is, t, H =>
    match ops.toList[i]? with
    | none => False
    | some o =>
      if za0 o.op = true then Safe P S t o.op ∧ aStep P ops.toList i t H (ze6 P ops S Q is)
      else aStep P ops.toList i t H fun t' H' => (sinkB ops i = true ∨ LES S H H') ∧ ze6 P ops S Q is t' H'
theorem zfX {P : Program} {ops : Array Oper} {S : Nat → Prop} {Q : T → AH → Prop} : ∀ (is : List Nat) (listed : Array Bool) (t : T) (H : AH) (f : Nat), is.length ≤ f → Closed ops listed → okOrd ops is listed = true → ze6 P ops S Q is t H → AAnyS P ops S Q f listed t H
  | [], listed, t, H, f, _, _, hok, h => by
    have hr : Region.ready .any ops listed = [] := by simpa [okOrd] using hok
    cases f with
    | zero => exact ⟨hr, h⟩
    | succ f => exact ⟨fun _ => h, by rw [hr]; simp⟩
  | i :: is, listed, t, H, 0, hl, _, _, _ => by simp at hl
  | i :: is, listed, t, H, f + 1, hl, hc, hok, h => by
    simp only [okOrd, Bool.and_eq_true] at hok
    obtain ⟨h1, h2⟩ := hok
    unfold ze6 at h
    cases ho : ops[i]? with
    | none => simp [ho] at h1
    | some o =>
      have e : ops.toList[i]? = some o := by simpa using ho
      simp only [ho] at h1
      rw [e] at h
      simp only at h
      split at h1
      · rename_i hq
        rw [if_pos hq] at h
        simp only [Bool.and_eq_true] at h1
        obtain ⟨hr, hfr⟩ := h1
        have hr' : i ∈ Region.ready .any ops listed := by simpa using hr
        obtain ⟨v, hy, hk⟩ := zbN ho hq h.2
        exact zfV ho hq f listed t H hc (Region.free_spec ho hfr) hr' h.1 hy (zfX is _ _ H f (by simp at hl; omega) (hc.set hr') h2 hk)
      · rename_i hq
        rw [if_neg hq] at h
        have hr : Region.ready .any ops listed = [i] := by simpa using h1
        refine ⟨fun h0 => (by rw [hr] at h0; cases h0), fun j hj => ?_⟩
        have hji : j = i := by rw [hr] at hj; simpa using hj
        subst hji
        exact zaQ h fun t' H' hk => ⟨hk.1, zfX is _ t' H' f (by simp at hl; omega) (hc.set hj) h2 hk.2⟩
theorem zhD {P : Program} {ops : Array Oper} {S : Nat → Prop} {Q : T → AH → Prop} {QC : Exit → Act → World → Prop} {base : Nat} :
    ∀ (f : Nat) (listed : Array Bool) (t : T) (H : AH) (ρ : Nat → Nat) (w : World) (tmps : Array Value), AAnyS P ops S Q f listed t H → St base ρ t H tmps w → (∀ o ∈ ops.toList, ∀ i, o.dst = some i → i < tmps.size) →
      (∀ t' H' ρ' w' tmps', Q t' H' → St base ρ' t' H' tmps' w' → Ext base ρ H.next w ρ' H'.next w' → tmps'.size = tmps.size → QC .normal ⟨tmps', []⟩ w') →
      wpAny P .any ops QC f listed ⟨tmps, []⟩ w
  | 0, listed, t, H, ρ, w, tmps, h, hS, _, hQ => ⟨h.1, hQ t H ρ w tmps h.2 hS (Ext.refl _ _ _ _) rfl⟩
  | f + 1, listed, t, H, ρ, w, tmps, h, hS, hd, hQ => by
    refine ⟨fun h0 => hQ t H ρ w tmps (h.1 h0) hS (Ext.refl _ _ _ _) rfl, fun i hi => ?_⟩
    have hstep := h.2 i hi
    obtain ⟨_, o, ho, _⟩ := ready_iff.1 hi
    have e : ops.toList[i]? = some o := by simpa using ho
    have hom : o ∈ ops.toList := List.mem_of_getElem? e
    unfold aStep at hstep
    rw [e] at hstep
    simp only at hstep
    have hgo : ∀ v v' H' ρ' w', AAnyS P ops S Q f (listed.setIfInBounds i true) (updO t o.dst v) H' → Rel base ρ' H' w' → Ext base ρ H.next w ρ' H'.next w' → VR ρ' H'.next w' v v' →
        wpAny P .any ops QC f (listed.setIfInBounds i true) (Act.put ⟨tmps, []⟩ o.dst v') w' := by
      intro v v' H' ρ' w' hK R' E hV
      rw [put_eta]
      refine zhD f _ _ H' ρ' w' _ hK ⟨R', (hS.2.ext E).put hV o.dst (hd o hom)⟩ (fun o' ho' k hk => by rw [ze1]; exact hd o' ho' k hk) ?_
      intro t' H'' ρ'' w'' tmps' hq hs he hz
      exact hQ t' H'' ρ'' w'' tmps' hq hs (E.trans he) (by rw [hz, ze1])
    have hall := wp_one (P := P) (QC := QC) ops i o ho hS (hnext := fun a w' => wpAny P .any ops QC f (listed.setIfInBounds i true) a w') hgo
      (K := fun v H' => AAnyS P ops S Q f (listed.setIfInBounds i true) (updO t o.dst v) H')
    refine hall ?_
    cases hg : o.guard with
    | none =>
      simp only [hg] at hstep ⊢
      exact zaI (fun v H' hk => hk.2) _ hstep
    | some g =>
      simp only [hg] at hstep ⊢
      exact zb5 hstep (zaI (fun v H' hk => hk.2) _) (fun hk => hk.2)
theorem draw_okS {P : Program} {id : Nat} {ops : Array Oper} {Q : Exit → T → AH → Prop} {t : T} {H : AH} (S : Nat → Prop) (is : List Nat) (hm : P.follows .mixedOrders = true) (hok : okOrd ops is (Array.replicate ops.size false) = true) (hl : is.length = ops.size)
    (h : ze6 P ops S (Q .normal) is t H) : awp P (.region id ops true) Q t H := by
  intro base ρ w tmps QC hS hd hQ
  have hA := zfX is _ t H ops.size (by omega) ⟨by simp, fun j oj hj hl => by rw [zb1] at hl; cases hl⟩ hok h
  refine wp_region_any hm (zhD ops.size _ t H ρ w.drew tmps hA ⟨hS.1.drew, hS.2.ext (zbS (base := base) (H := H) w)⟩ ?_ fun t' H' ρ' w' tmps' hq hs he hz => ?_)
  · intro o ho i hi
    have := List.all_eq_true.1 hd o ho
    simp only [hi, decide_eq_true_eq] at this
    exact this
  · exact hQ .normal t' H' ρ' w' tmps' hq hs ((zbS (base := base) (H := H) (ρ := ρ) w).trans he) hz
def stepIS (P : Program) (ops : Array Oper) (S : Nat → Prop) (K : T → AH → Prop) (i : Nat) : Option Oper → T → AH → (fun _ => Prop) (ops, K, i)
  | none, _, _ => False
  | some o, t, H =>
    match o.guard with
    | none => loadOk S t o.op ∧ runOut P H (evalOp P t H o.op) fun v H' => (za0 o.op = true ∨ sinkB ops i = true ∨ LES S H H') ∧ K (updO t o.dst v) H'
    | some g => loadOk S t o.op ∧ condW (gv ops.toList t g.1) g.2 (runOut P H (evalOp P t H o.op) fun v H' => (za0 o.op = true ∨ sinkB ops i = true ∨ LES S H H') ∧ K (updO t o.dst v) H') (K (updO t o.dst undef) H)
def awpIS (P : Program) (ops : Array Oper) (S : Nat → Prop) (Q : T → AH → Prop) : (is : List Nat) → T → AH → (fun _ => Prop) (ops, Q, is)
  | [], t, H => Q t H
  | i :: is, t, H => stepIS P ops S (awpIS P ops S Q is) i (ops.toList[i]?) t H
theorem zi6 {P : Program} {ops : Array Oper} {S : Nat → Prop} {Q : T → AH → Prop} : ∀ (is : List Nat) (t : T) (H : AH), awpIS P ops S Q is t H → ze6 P ops S Q is t H
  | [], t, H, h => h
  | i :: is, t, H, h => by
    have ih := fun t H => zi6 (P := P) (ops := ops) (S := S) (Q := Q) is t H
    unfold awpIS at h
    unfold ze6
    cases e : ops.toList[i]? with
    | none => rw [e] at h; exact h.elim
    | some o =>
    rw [e] at h
    unfold stepIS at h
    have hs : ∀ K K' : T → AH → Prop, (∀ v H', K (updO t o.dst v) H' → K' (updO t o.dst v) H') → (∀ H', K (updO t o.dst undef) H' → K' (updO t o.dst undef) H') → aStep P ops.toList i t H K → aStep P ops.toList i t H K' := by
      intro K K' k1 k2 hh
      unfold aStep at hh ⊢
      rw [e] at hh ⊢
      simp only at hh ⊢
      cases hg : o.guard with
      | none => simp only [hg] at hh ⊢; exact zaI (fun v H' => k1 v H') _ hh
      | some g => simp only [hg] at hh ⊢; exact zb5 hh (zaI (fun v H' => k1 v H') _) (k2 H)
    have hload : loadOk S t o.op := by
      cases hg : o.guard <;> simp only [hg] at h <;> exact h.1
    have base : aStep P ops.toList i t H fun t' H' => (za0 o.op = true ∨ sinkB ops i = true ∨ LES S H H') ∧ ze6 P ops S Q is t' H' := by
      unfold aStep
      rw [e]
      simp only
      cases hg : o.guard with
      | none => simp only [hg] at h ⊢; exact zaI (fun v H' k => ⟨k.1, ih _ _ k.2⟩) _ h.2
      | some g => simp only [hg] at h ⊢; exact zb5 h.2 (zaI (fun v H' k => ⟨k.1, ih _ _ k.2⟩) _) (fun k => ⟨.inr (.inr (LES.refl S H)), ih _ _ k⟩)
    simp only
    split
    · rename_i hqq
      exact ⟨safe_of hqq hload, hs _ _ (fun v H' k => k.2) (fun H' k => k.2) base⟩
    · rename_i hq
      refine hs _ _ ?_ ?_ base
      · rintro v H' ⟨k | k, k2⟩
        · exact absurd k hq
        · exact ⟨k, k2⟩
      · rintro H' ⟨k | k, k2⟩
        · exact absurd k hq
        · exact ⟨k, k2⟩
theorem zc9 {P : Program} {id : Nat} {ops : Array Oper} {Q : Exit → T → AH → Prop} {t : T} {H : AH} (S : Nat → Prop) (is : List Nat) (hm : P.follows .mixedOrders = true) (hok : okOrd ops is (Array.replicate ops.size false) = true) (hl : is.length = ops.size)
    (h : awpIS P ops S (Q .normal) is t H) : awp P (.region id ops true) Q t H := draw_okS S is hm hok hl (zi6 is _ _ h)
theorem zaM (P : Program) (ops : Array Oper) (S : Nat → Prop) (Q : T → AH → Prop) (t : T) (H : AH) : awpIS P ops S Q [] t H = Q t H := (rfl)
theorem zaG (P : Program) (ops : Array Oper) (S : Nat → Prop) (Q : T → AH → Prop) (i : Nat) (is : List Nat) (t : T) (H : AH) : awpIS P ops S Q (i :: is) t H = stepIS P ops S (awpIS P ops S Q is) i (ops.toList[i]?) t H := (rfl)
theorem za8 (P : Program) (ops : Array Oper) (S : Nat → Prop) (K : T → AH → Prop) (i : Nat) (d : Option Tmp) (op : Op) (ty : TypeId) (pos : String) (af : Array Edge) (t : T) (H : AH) :
    stepIS P ops S K i (some ⟨d, op, ty, pos, af, none⟩) t H = (loadOk S t op ∧ runOut P H (evalOp P t H op) fun v H' => (za0 op = true ∨ sinkB ops i = true ∨ LES S H H') ∧ K (updO t d v) H') := (rfl)
@[congr] theorem stepIS_congr {P : Program} {ops : Array Oper} {S : Nat → Prop} {K : T → AH → Prop} {i : Nat} {o o' : Option Oper} {t t' : T} {H H' : AH} (ho : o = o') (h : t = t') (k : H = H') : stepIS P ops S K i o t H = stepIS P ops S K i o' t' H' := by rw [ho, h, k]
@[congr] theorem awpIS_congr {P : Program} {ops : Array Oper} {S : Nat → Prop} {is : List Nat} {Q : T → AH → Prop} {t t' : T} {H H' : AH} (h : t = t') (k : H = H') : awpIS P ops S Q is t H = awpIS P ops S Q is t' H' := by rw [h, k]
end Go.Abs
end

section
set_option maxRecDepth 100000
set_option maxHeartbeats 2000000
namespace Go.Proofs.YtpienljnoaendaaGreat.A
open Go Go.Abs Go.RowKit
theorem pickD {cv : Value} {nb si k m : Nat} {H Hp : AH} {L : List Th} {ty : TypeId} {lv : Value} {ls : List Int} (d : Dq cv nb si H Hp L) (hsi : si < H.next) (hc : CodeX cv nb si H) (hsc : Sc H) (hnb : nb ≤ 4611686018427387904) (hk : L[k]? = some (.sl 1 ty lv m (ints ls))) (hm : 0 < m ∧ m ≤ 100) :
    ACalls Tryz.prog 98 [.pointer (some ⟨si, 0, none⟩), lv] Hp (fun v H' => ∃ x : Int, v = .int .i64 x ∧ x ∈ ls ∧ SrcB cv nb si Hp H') :=
  zhX cv nb si lv m ls Hp hm.1 (by omega) hnb (d.src hsi) (d.code hc hsc) fun H' hS => (d.next hsi hS).rd k hk
theorem nextD {cv : Value} {nb si : Nat} {H Hp : AH} {L : List Th} (n : Int) (d : Dq cv nb si H Hp L) (hsi : si < H.next) (hc : CodeX cv nb si H) (hsc : Sc H) (hnb : nb ≤ 4611686018427387904) (hn : n ≤ 9223372036854775807) :
    ACalls Tryz.prog 99 [.pointer (some ⟨si, 0, none⟩), .int .i64 n] Hp (fun v H' => ∃ x : Nat, v = .int .i64 x ∧ ((n < 1 ∧ x = 0) ∨ (x : Int) < n) ∧ Dq cv nb si H H' L) := by
  refine (zcE cv nb si n Hp hn hnb (d.src hsi) (d.code hc hsc)).mono ?_
  rintro v H' ⟨x, hv, hx, hS⟩
  exact ⟨x, hv, hx, d.next hsi hS⟩
theorem ACalls.ex2 {P : Program} {f : FuncId} {args : List Value} {H : AH} {α β : Type} {g : α → β → Value} {X : α → β → AH → Prop} {R : Value → AH → Prop} (h : ACalls P f args H (fun v H' => ∃ u w, v = g u w ∧ X u w H')) (k : ∀ u w H', X u w H' → R (g u w) H') : ACalls P f args H R :=
  h.mono fun v H' hh => by obtain ⟨u, w, rfl, hx⟩ := hh; exact k _ _ _ hx
theorem ACalls.ex4 {P : Program} {f : FuncId} {args : List Value} {H : AH} {α β γ δ : Type} {g : α → β → γ → δ → Value} {X : α → β → γ → δ → AH → Prop} {R : Value → AH → Prop} (h : ACalls P f args H (fun v H' => ∃ a b c d, v = g a b c d ∧ X a b c d H')) (k : ∀ a b c d H', X a b c d H' → R (g a b c d) H') : ACalls P f args H R :=
  h.mono fun v H' hh => by obtain ⟨a, b, c, d, rfl, hx⟩ := hh; exact k _ _ _ _ _ hx
theorem Dq.les {cv : Value} {nb si : Nat} {H H' : AH} {L : List Th} (h : Dq cv nb si H H' L) (sc : Sc H) : LES (fun j => j ≠ si) H H' := ⟨h.le, fun i r hi hr => h.old sc i r hi hr⟩
theorem les_of {cv : Value} {nb si : Nat} {H B H' : AH} {M : List Th} (k : SrcB cv nb si H B) (o : Ow B H' M) (sc : Sc H) : LES (fun j => j ≠ si) H H' := Dq.les (⟨⟨B, k, o⟩⟩ : Dq cv nb si H H' M) sc
theorem ACalls.scz {P : Program} {f : FuncId} {args : List Value} {H : AH} {α : Type} {g : α → Value} {X : α → AH → Prop} (h : ACalls P f args H (fun v H' => ∃ u, v = g u ∧ X u H')) : ACalls P f args H (fun v H' => ∃ u, v = g u ∧ X u H' ∧ Sc H') :=
  h.sc.mono fun _ _ ⟨⟨u, h1, h2⟩, h3⟩ => ⟨u, h1, h2, h3⟩
theorem Ow.swap1 {B H : AH} {a b c d e : Th} (o : Ow B H [a, b, c, d, e]) : Ow B H [a, e, c] := by
  refine o.sub (fun j => if j = 1 then 4 else j) (fun j hj => ?_) fun x y hx hy h => ?_
  · have hj : j < 3 := hj
    rcases j with _ | _ | _ | j
    · rfl
    · rfl
    · rfl
    · omega
  · have hx : x < 3 := hx
    have hy : y < 3 := hy
    have h : (if x = 1 then 4 else x) = if y = 1 then 4 else y := h
    split at h <;> split at h <;> omega
theorem circleVL_all : ∀ n : Nat, n < 15 → 2 ≤ n → ((zc7 n (oddUp n)).all fun x => decide (0 ≤ x ∧ x < (n : Int))) = true := by decide +kernel
theorem circleVL {n : Nat} (h : 2 ≤ n ∧ n ≤ 14) : VL n (zc7 n (oddUp n)) := fun x hx => by
  have := List.all_eq_true.1 (circleVL_all n (by omega) h.1) x hx
  simpa using this
theorem rndVL {n i : Nat} {l : List Int} (h : VL n l) : VL n (rnd l i) := fun x hx => h x (List.mem_of_mem_drop (List.mem_of_mem_take hx))
theorem reoVL {n : Nat} {l y : List Int} (h : VL n l) : VL n (reoL l y) := fun x hx => by
  unfold reoL at hx
  rw [List.mem_flatMap] at hx
  obtain ⟨a, _, hx⟩ := hx
  exact rndVL h x hx
theorem pickL {cv : Value} {nb si : Nat} {H Hp : AH} {L : List Th} (ls : List Int) (m : Nat) (hm : ls.length = m) (hm0 : 0 < m) (hm1 : m ≤ 100) (d : Dq cv nb si H Hp L) (hsi : si < H.next) (hc : CodeX cv nb si H) (hsc : Sc H) (hnb : nb ≤ 4611686018427387904) :
    ACalls Tryz.prog 98 [.pointer (some ⟨si, 0, none⟩), .slice (some ⟨Hp.next, 0, some 1⟩) m m] (Hp.push ⟨2, true, ints ls⟩) (fun v H' => ∃ x : Int, v = .int .i64 x ∧ x ∈ ls ∧ Dq cv nb si H H' L) := by
  have d6 : Dq cv nb si H (Hp.push ⟨2, true, ints ls⟩) L := d.tmp _
  have d7 : Dq cv nb si H (Hp.push ⟨2, true, ints ls⟩) (L ++ [.sl 1 2 (.slice (some ⟨Hp.next, 0, some 1⟩) m m) m (ints ls)]) := d.map fun B o => o.pushSl (by rw [za2, hm, Nat.mul_one])
  refine (pickD (k := L.length) (ty := 2) (ls := ls) d7 hsi hc hsc hnb (by simp) ⟨hm0, hm1⟩).mono ?_
  rintro v H' ⟨x, h1, h2, h3⟩
  exact ⟨x, h1, h2, d6.next hsi h3⟩
def DrawnS (cv : Value) (nb si : Nat) (H : AH) (v : Value) (H' : AH) : Prop :=
  ∃ (n k : Nat) (u : Value) (l : List Int), v = .agg #[.int .i64 n, u] ∧ 2 ≤ n ∧ n ≤ 14 ∧ 1 ≤ k ∧ k ≤ 13 ∧ VL n l ∧ Dq cv nb si H H' [.sl 14 69 u k (ints l)]
theorem zdU (cv : Value) (nb si : Nat) (H : AH) (hnb : nb ≤ 4611686018427387904) (hs : Src cv nb si H) (hc : CodeX cv nb si H) :
    ACalls Tryz.prog 231 [.pointer (some ⟨si, 0, none⟩)] H (DrawnS cv nb si H) := by
  refine ACalls.wf (by kernel_rfl) fun hsc => za3 [.cell 2 26] Tryz.func231 (by kernel_rfl) rfl rfl (Nat.le_of_ble_eq_true rfl) (by kernel_rfl) ?_
  obtain ⟨_, _, hrow, _⟩ := id hs
  have hsi := hsc _ _ hrow
  clear hrow
  have d0 := (Dq.start hs hsc).push ⟨26, true, [.int .i64 0, .slice none 0 0]⟩
  have hb : ∀ (t : T) (H : AH), evalOp Tryz.prog t H (.buildSlice 33 14 #[(0, .const (.int .i64 2)), (1, .const (.int .i64 3)), (2, .const (.int .i64 4)), (3, .const (.int .i64 4)), (4, .const (.int .i64 5)), (5, .const (.int .i64 6)), (6, .const (.int .i64 6)), (7, .const (.int .i64 7)), (8, .const (.int .i64 8)), (9, .const (.int .i64 8)), (10, .const (.int .i64 9)), (11, .const (.int .i64 10)), (12, .const (.int .i64 12)), (13, .const (.int .i64 14))]) = .need (14 ≤ 16777216 ∧ 14 * 1 ≤ 16777216) (.val (.slice (some ⟨H.next, 0, some 1⟩) 14 14) (H.push ⟨2, true, ints [2, 3, 4, 4, 5, 6, 6, 7, 8, 8, 9, 10, 12, 14]⟩)) := fun t H => by kernel_rfl
  generalize (Op.buildSlice 33 14 #[(0, .const (.int .i64 2)), (1, .const (.int .i64 3)), (2, .const (.int .i64 4)), (3, .const (.int .i64 4)), (4, .const (.int .i64 5)), (5, .const (.int .i64 6)), (6, .const (.int .i64 6)), (7, .const (.int .i64 7)), (8, .const (.int .i64 8)), (9, .const (.int .i64 8)), (10, .const (.int .i64 9)), (11, .const (.int .i64 10)), (12, .const (.int .i64 12)), (13, .const (.int .i64 14))]) = bop at hb ⊢
  simp (config := {maxSteps := 3000000}) (disch := first | omega | (simp only [L3] <;> omega)) only [Sall,evalOp,init,binA_s,binE,binI,unE,convE,okNil,builtE,gv,TD.isAgg,resV,↓reduceIte,Nat.reduceEqDiff,reduceCtorEq,Nat.reduceAdd,Nat.reduceMul,Nat.reduceLeDiff,za0,za1,Int.reduceEq,Int.reduceLT,Int.reduceLE,Nat.reduceLT,tiA,tiXA, ↓hb]
  refine (pickL [2, 3, 4, 4, 5, 6, 6, 7, 8, 8, 9, 10, 12, 14] 14 rfl (by omega) (by omega) d0 hsi hc hsc hnb).ex ?_
  rintro x H2 ⟨hx, d1⟩
  have hx2 : 2 ≤ x ∧ x ≤ 14 := by
    simp only [List.mem_cons, List.not_mem_nil, or_false] at hx
    omega
  obtain ⟨n, rfl⟩ : ∃ n : Nat, x = n := ⟨x.toNat, by omega⟩
  have hn : 2 ≤ n ∧ n ≤ 14 := by omega
  refine Holds.mp ?_
  try simp (disch := first | omega | (simp only [L3] <;> omega)) only [Sall,evalOp,init,binA_s,binE,binI,unE,convE,okNil,builtE,gv,TD.isAgg,resV,↓reduceIte,Nat.reduceEqDiff,reduceCtorEq,Nat.reduceAdd,Nat.reduceMul,Nat.reduceLeDiff,za0,za1,Int.reduceEq,Int.reduceLT,Int.reduceLE,Nat.reduceLT,tiA,tiXA, true_and]
  refine (ACalls.scz (circleS_c n hn H2)).ex ?_
  rintro u H3 ⟨⟨up3, fr3⟩, sc3⟩
  have o3 := Ow.of_fr up3 sc3 fr3
  have hu := o3.one 0 rfl
  have d2 : Dq cv nb si H H3 [.row H.next ⟨26, true, [.int .i64 0, .slice none 0 0]⟩, .sl 14 69 u (oddUp n) (ints (zc7 n (oddUp n)))] := d1.calls o3
  have d3 := (d2.push ⟨26, true, [.int .i64 0, .slice none 0 0]⟩).putRow 2 rfl (cs' := [.int .i64 n, u])
  have hV := circleVL hn
  have hk : 1 ≤ oddUp n ∧ oddUp n ≤ 13 := by unfold oddUp; omega
  revert d3 hV hk
  generalize zc7 n (oddUp n) = l
  generalize oddUp n = k
  intro d3 hV hk
  refine Holds.mp ?_
  try simp (disch := first | omega | (simp only [L3] <;> omega)) only [Sall,evalOp,init,binA_s,binE,binI,unE,convE,okNil,builtE,gv,TD.isAgg,resV,↓reduceIte,Nat.reduceEqDiff,reduceCtorEq,Nat.reduceAdd,Nat.reduceMul,Nat.reduceLeDiff,za0,za1,Int.reduceEq,Int.reduceLT,Int.reduceLE,Nat.reduceLT,tiA,tiXA, hu]
  obtain ⟨ri, eri⟩ : ∃ ri, ri = H3.next := ⟨_, rfl⟩
  have nri : ¬ ri = si := by have := d2.le; omega
  rw [← eri] at d3 ⊢
  generalize (H3.push ⟨26, true, [.int .i64 0, .slice none 0 0]⟩).setCells ri [.int .i64 n, u] = H4 at d3 ⊢
  refine (nextD 3 d3 hsi hc hsc hnb (by omega)).ex ?_
  rintro y H5 ⟨hy, d4⟩
  refine Holds.mp ?_
  try simp (disch := first | omega | (simp only [L3] <;> omega)) only [Sall,evalOp,init,binA_s,binE,binI,unE,convE,okNil,builtE,gv,TD.isAgg,resV,↓reduceIte,Nat.reduceEqDiff,reduceCtorEq,Nat.reduceAdd,Nat.reduceMul,Nat.reduceLeDiff,za0,za1,Int.reduceEq,Int.reduceLT,Int.reduceLE,Nat.reduceLT,tiA,tiXA, true_and]
  refine zdR (fun t H' => ∃ (u : Value) (l : List Int), t 0 = .pointer (some ⟨si, 0, none⟩) ∧ t 2 = .pointer (some ⟨H.next, 0, none⟩) ∧ t 3 = .pointer (some ⟨ri, 0, none⟩) ∧ VL n l ∧ Dq cv nb si H H' [.row H.next ⟨26, true, [.int .i64 0, .slice none 0 0]⟩, .sl 14 69 u k (ints l), .row ri ⟨26, true, [.int .i64 n, u]⟩]) (fun _ => ?_) (fun _ => ?_) ?_
  · refine ⟨u, l, ?_⟩
    try simp (disch := first | omega | (simp only [L3] <;> omega)) only [Sall,evalOp,init,binA_s,binE,binI,unE,convE,okNil,builtE,gv,TD.isAgg,resV,↓reduceIte,Nat.reduceEqDiff,reduceCtorEq,Nat.reduceAdd,Nat.reduceMul,Nat.reduceLeDiff,za0,za1,Int.reduceEq,Int.reduceLT,Int.reduceLE,Nat.reduceLT,tiA,tiXA, true_and]
    exact ⟨hV, d4⟩
  · have g2 := d4.rowAt 2 rfl
    have hu5 := d4.one 1 rfl
    refine zc9 (fun j => j ≠ si) [0, 1, 2, 3, 4, 5, 6] (by kernel_rfl) (by kernel_rfl) (by kernel_rfl) ?_
    try simp (disch := first | omega | (simp only [L3] <;> omega)) only [Sall,evalOp,init,binA_s,binE,binI,unE,convE,okNil,builtE,gv,TD.isAgg,resV,↓reduceIte,Nat.reduceEqDiff,reduceCtorEq,Nat.reduceAdd,Nat.reduceMul,Nat.reduceLeDiff,za0,za1,Int.reduceEq,Int.reduceLT,Int.reduceLE,Nat.reduceLT,tiA,tiXA, zaM, zaG, za8, loadOk, g2, hu5, nri]
    refine (zbQ cv nb si n H5 (by omega) hnb (d4.src hsi) (d4.code hc hsc)).mono ?_
    rintro w H6 ⟨y, B6, k6, o6, hp⟩
    rw [Int.toNat_natCast] at o6 hp
    have d5 := d4.call hsi k6 o6
    refine ⟨.inr (.inr (les_of k6 o6 d4.sc)), ?_⟩
    have hw := o6.one 0 rfl
    try simp (disch := first | omega | (simp only [L3] <;> omega)) only [Sall,evalOp,init,binA_s,binE,binI,unE,convE,okNil,builtE,gv,TD.isAgg,resV,↓reduceIte,Nat.reduceEqDiff,reduceCtorEq,Nat.reduceAdd,Nat.reduceMul,Nat.reduceLeDiff,za0,za1,Int.reduceEq,Int.reduceLT,Int.reduceLE,Nat.reduceLT,tiA,tiXA, zaM, zaG, za8, loadOk, hw, hu5, nri]
    refine ACalls.ex2 (zcV n k u w l y H6 ⟨by omega, by omega⟩ (by omega) (d5.rd 1 rfl) hV (d5.rd 3 rfl) hp.rng) ?_
    rintro u' l' H7 ⟨o7, hV'⟩
    have d6 := d5.calls o7
    refine ⟨.inr (.inr (LE.les (o7.up.le d5.sc))), ?_⟩
    have g2' := d6.rowAt 2 rfl
    have hu7 := o7.one 0 rfl
    have d7 := d6.putRow 2 rfl (cs' := [.int .i64 n, u'])
    try simp (disch := first | omega | (simp only [L3] <;> omega)) only [Sall,evalOp,init,binA_s,binE,binI,unE,convE,okNil,builtE,gv,TD.isAgg,resV,↓reduceIte,Nat.reduceEqDiff,reduceCtorEq,Nat.reduceAdd,Nat.reduceMul,Nat.reduceLeDiff,za0,za1,Int.reduceEq,Int.reduceLT,Int.reduceLE,Nat.reduceLT,tiA,tiXA, zaM, zaG, za8, loadOk, g2', hu7, nri]
    exact ⟨.inr (.inl (by kernel_rfl)), u', l', hV', d7.map fun B o => Ow.swap1 o⟩
  · rintro t H6 ⟨u, l, h0, h2, h3, hV, d5⟩
    try simp (disch := first | omega | (simp only [L3] <;> omega)) only [Sall,evalOp,init,binA_s,binE,binI,unE,convE,okNil,builtE,gv,TD.isAgg,resV,↓reduceIte,Nat.reduceEqDiff,reduceCtorEq,Nat.reduceAdd,Nat.reduceMul,Nat.reduceLeDiff,za0,za1,Int.reduceEq,Int.reduceLT,Int.reduceLE,Nat.reduceLT,tiA,tiXA, h0]
    refine (nextD 3 d5 hsi hc hsc hnb (by omega)).ex ?_
    rintro z H7 ⟨hz, d6⟩
    refine Holds.mp ?_
    try simp (disch := first | omega | (simp only [L3] <;> omega)) only [Sall,evalOp,init,binA_s,binE,binI,unE,convE,okNil,builtE,gv,TD.isAgg,resV,↓reduceIte,Nat.reduceEqDiff,reduceCtorEq,Nat.reduceAdd,Nat.reduceMul,Nat.reduceLeDiff,za0,za1,Int.reduceEq,Int.reduceLT,Int.reduceLE,Nat.reduceLT,tiA,tiXA, h0]
    refine zdR (fun t H' => ∃ (u : Value) (l : List Int), t 2 = .pointer (some ⟨H.next, 0, none⟩) ∧ t 3 = .pointer (some ⟨ri, 0, none⟩) ∧ VL n l ∧ Dq cv nb si H H' [.row H.next ⟨26, true, [.int .i64 0, .slice none 0 0]⟩, .sl 14 69 u k (ints l), .row ri ⟨26, true, [.int .i64 n, u]⟩]) (fun _ => ?_) (fun _ => ?_) ?_
    · refine ⟨u, l, ?_⟩
      try simp (disch := first | omega | (simp only [L3] <;> omega)) only [Sall,evalOp,init,binA_s,binE,binI,unE,convE,okNil,builtE,gv,TD.isAgg,resV,↓reduceIte,Nat.reduceEqDiff,reduceCtorEq,Nat.reduceAdd,Nat.reduceMul,Nat.reduceLeDiff,za0,za1,Int.reduceEq,Int.reduceLT,Int.reduceLE,Nat.reduceLT,tiA,tiXA, h2, h3]
      exact ⟨hV, d6⟩
    · have g2 := d6.rowAt 2 rfl
      have hu5 := d6.one 1 rfl
      have hlu := (d6.rd 1 rfl).len
      refine zc9 (fun j => j ≠ si) [0, 1, 2, 3, 4, 5, 6, 7] (by kernel_rfl) (by kernel_rfl) (by kernel_rfl) ?_
      try simp (disch := first | omega | (simp only [L3] <;> omega)) only [Sall,evalOp,init,binA_s,binE,binI,unE,convE,okNil,builtE,gv,TD.isAgg,resV,↓reduceIte,Nat.reduceEqDiff,reduceCtorEq,Nat.reduceAdd,Nat.reduceMul,Nat.reduceLeDiff,za0,za1,Int.reduceEq,Int.reduceLT,Int.reduceLE,Nat.reduceLT,tiA,tiXA, zaM, zaG, za8, loadOk, h0, h2, h3, g2, hu5, nri, builtE, hlu]
      refine (zbQ cv nb si k H7 (by omega) hnb (d6.src hsi) (d6.code hc hsc)).mono ?_
      rintro w H8 ⟨y, B8, k8, o8, hp⟩
      rw [Int.toNat_natCast] at o8 hp
      have d7 := d6.call hsi k8 o8
      refine ⟨.inr (.inr (les_of k8 o8 d6.sc)), ?_⟩
      have hw := o8.one 0 rfl
      try simp (disch := first | omega | (simp only [L3] <;> omega)) only [Sall,evalOp,init,binA_s,binE,binI,unE,convE,okNil,builtE,gv,TD.isAgg,resV,↓reduceIte,Nat.reduceEqDiff,reduceCtorEq,Nat.reduceAdd,Nat.reduceMul,Nat.reduceLeDiff,za0,za1,Int.reduceEq,Int.reduceLT,Int.reduceLE,Nat.reduceLT,tiA,tiXA, zaM, zaG, za8, loadOk, h2, h3, hw, hu5, nri]
      have hyl := hp.len
      refine (ACalls.scz (l01Reordered_c n u k l w y H8 (d7.rd 1 rfl) (by rw [hyl]; exact d7.rd 3 rfl) hp.rng (by omega) (by omega))).ex ?_
      rintro u' H9 ⟨⟨up9, fr9⟩, sc9⟩
      rw [hyl] at fr9
      have o9 := Ow.of_fr up9 sc9 fr9
      have d8 := d7.calls o9
      refine ⟨.inr (.inr (LE.les (o9.up.le d7.sc))), ?_⟩
      have g2' := d8.rowAt 2 rfl
      have hu7 := o9.one 0 rfl
      have d9 := d8.putRow 2 rfl (cs' := [.int .i64 n, u'])
      try simp (disch := first | omega | (simp only [L3] <;> omega)) only [Sall,evalOp,init,binA_s,binE,binI,unE,convE,okNil,builtE,gv,TD.isAgg,resV,↓reduceIte,Nat.reduceEqDiff,reduceCtorEq,Nat.reduceAdd,Nat.reduceMul,Nat.reduceLeDiff,za0,za1,Int.reduceEq,Int.reduceLT,Int.reduceLE,Nat.reduceLT,tiA,tiXA, zaM, zaG, za8, loadOk, h2, h3, g2', hu7, nri]
      exact ⟨.inr (.inl (by kernel_rfl)), u', reoL l y, reoVL hV, d9.map fun B o => Ow.swap1 o⟩
    · rintro t H8 ⟨u, l, h2, h3, hV, d7⟩
      have g2 := d7.rowAt 2 rfl
      have g0 := d7.rowAt 0 rfl
      have hu := d7.one 1 rfl
      try simp (disch := first | omega | (simp only [L3] <;> omega)) only [Sall,evalOp,init,binA_s,binE,binI,unE,convE,okNil,builtE,gv,TD.isAgg,resV,↓reduceIte,Nat.reduceEqDiff,reduceCtorEq,Nat.reduceAdd,Nat.reduceMul,Nat.reduceLeDiff,za0,za1,Int.reduceEq,Int.reduceLT,Int.reduceLE,Nat.reduceLT,tiA,tiXA, h2, h3, g2, g0, hu]
      exact ⟨n, k, u, l, rfl, hn.1, hn.2, hk.1, hk.2, hV, (d7.putRow 0 rfl).map fun B o => o.sub (fun _ => 1) (fun j hj => by
          obtain rfl : j = 0 := by simp at hj; omega
          rfl) (fun x y hx hy _ => by simp at hx hy; omega)⟩
end Go.Proofs.YtpienljnoaendaaGreat.A
end

section
namespace Go.Abs
open Go Go.RowKit
def awpTS (P : Program) (ops : Array Oper) (S : Nat → Prop) (Q : T → AH → Prop) : (ot : OT) → T → AH → (fun _ => Prop) (ops, Q, ot)
  | .nil, t, H => Q t H
  | .one i r, t, H => stepIS P ops S (awpTS P ops S Q r) i (ops.toList[i]?) t H
  | .two i j a b, t, H => stepIS P ops S (awpTS P ops S Q a) i (ops.toList[i]?) t H ∧ stepIS P ops S (awpTS P ops S Q b) j (ops.toList[j]?) t H
  | .three i j k a b c, t, H => stepIS P ops S (awpTS P ops S Q a) i (ops.toList[i]?) t H ∧ stepIS P ops S (awpTS P ops S Q b) j (ops.toList[j]?) t H ∧ stepIS P ops S (awpTS P ops S Q c) k (ops.toList[k]?) t H
theorem zhH {P : Program} {ops : Array Oper} {S : Nat → Prop} {K : T → AH → Prop} {i : Nat} {t : T} {H : AH} (h : stepIS P ops S K i (ops.toList[i]?) t H) :
    (∃ o, ops.toList[i]? = some o ∧ loadOk S t o.op) ∧ aStep P ops.toList i t H fun t' H' => ((∃ o, ops.toList[i]? = some o ∧ za0 o.op = true) ∨ sinkB ops i = true ∨ LES S H H') ∧ K t' H' := by
  unfold aStep
  cases e : ops.toList[i]? with
  | none => rw [e] at h; exact h.elim
  | some o =>
    rw [e] at h
    unfold stepIS at h
    simp only
    cases hg : o.guard with
    | none => simp only [hg] at h ⊢; exact ⟨⟨o, rfl, h.1⟩, zaI (fun v H' k => ⟨k.1.imp (fun q => ⟨o, rfl, q⟩) id, k.2⟩) _ h.2⟩
    | some g => simp only [hg] at h ⊢; exact ⟨⟨o, rfl, h.1⟩, zb5 h.2 (zaI (fun v H' k => ⟨k.1.imp (fun q => ⟨o, rfl, q⟩) id, k.2⟩) _) (fun k => ⟨.inr (.inr (LES.refl S H)), k⟩)⟩
theorem zdF {P : Program} {ops : Array Oper} {S : Nat → Prop} {K : T → AH → Prop} {i : Nat} {t : T} {H : AH} (h : stepIS P ops S K i (ops.toList[i]?) t H) :
    aStep P ops.toList i t H fun t' H' => (sinkB ops i = true ∨ LES S H H') ∧ K t' H' := by
  cases e : ops.toList[i]? with
  | none => rw [e] at h; exact h.elim
  | some o =>
    by_cases hq : za0 o.op = true
    · have ho : ops[i]? = some o := by simpa using e
      obtain ⟨v, hy, hk⟩ := zbN ho hq (zhH h).2
      exact hy.step ho hq ⟨.inr (LES.refl _ _), hk.2⟩
    · refine zaQ (zhH h).2 fun t' H' hk => ⟨?_, hk.2⟩
      rcases hk.1 with ⟨o', e', q'⟩ | k
      · rw [e] at e'; cases e'; exact absurd q' hq
      · exact k
theorem zbV {P : Program} {ops : Array Oper} {S : Nat → Prop} {Q : T → AH → Prop} : ∀ (ot : OT) (listed : Array Bool) (t : T) (H : AH) (f : Nat), ot.depth ≤ f → Closed ops listed → okOT ops ot listed = true → awpTS P ops S Q ot t H → AAnyS P ops S Q f listed t H
  | .nil, listed, t, H, f, _, _, hok, h => by
    have hr : Region.ready .any ops listed = [] := by simpa [okOT] using hok
    cases f with
    | zero => exact ⟨hr, h⟩
    | succ f => exact ⟨fun _ => h, by rw [hr]; simp⟩
  | .one i r, listed, t, H, 0, hl, _, _, _ => by simp [OT.depth] at hl
  | .two i j a b, listed, t, H, 0, hl, _, _, _ => by simp [OT.depth] at hl
  | .three i j k a b c, listed, t, H, 0, hl, _, _, _ => by simp [OT.depth] at hl
  | .one i r, listed, t, H, f + 1, hl, hc, hok, h => by
    simp only [okOT, Bool.and_eq_true] at hok
    simp only [OT.depth] at hl
    obtain ⟨h1, h2⟩ := hok
    unfold awpTS at h
    cases ho : ops[i]? with
    | none => simp [ho] at h1
    | some o =>
      simp only [ho] at h1
      split at h1
      · rename_i hq
        simp only [Bool.and_eq_true] at h1
        obtain ⟨hr, hfr⟩ := h1
        have hr' : i ∈ Region.ready .any ops listed := by simpa using hr
        obtain ⟨v, hy, hk⟩ := zbN ho hq (zdF h)
        obtain ⟨⟨o', e', hl'⟩, _⟩ := zhH h
        have eo : o' = o := by
          have e2 : ops.toList[i]? = some o := by simpa using ho
          exact Option.some.inj (e'.symm.trans e2)
        subst eo
        exact zfV ho hq f listed t H hc (Region.free_spec ho hfr) hr' (safe_of hq hl') hy (zbV r _ _ H f (by omega) (hc.set hr') h2 hk.2)
      · have hr : Region.ready .any ops listed = [i] := by simpa using h1
        refine ⟨fun h0 => (by rw [hr] at h0; cases h0), fun j hj => ?_⟩
        have hji : j = i := by rw [hr] at hj; simpa using hj
        subst hji
        exact zaQ (zdF h) fun t' H' hk => ⟨hk.1, zbV r _ t' H' f (by omega) (hc.set hj) h2 hk.2⟩
  | .two i j a b, listed, t, H, f + 1, hl, hc, hok, h => by
    simp only [okOT, Bool.and_eq_true] at hok
    simp only [OT.depth] at hl
    obtain ⟨⟨h1, h2⟩, h3⟩ := hok
    unfold awpTS at h
    have hr : Region.ready .any ops listed = [i, j] := by simpa using h1
    refine ⟨fun h0 => (by rw [hr] at h0; cases h0), fun x hx => ?_⟩
    have hx2 : x = i ∨ x = j := by rw [hr] at hx; simpa using hx
    rcases hx2 with rfl | rfl
    · exact zaQ (zdF h.1) fun t' H' hk => ⟨hk.1, zbV a _ t' H' f (by omega) (hc.set hx) h2 hk.2⟩
    · exact zaQ (zdF h.2) fun t' H' hk => ⟨hk.1, zbV b _ t' H' f (by omega) (hc.set hx) h3 hk.2⟩
  | .three i j k a b c, listed, t, H, f + 1, hl, hc, hok, h => by
    simp only [okOT, Bool.and_eq_true] at hok
    simp only [OT.depth] at hl
    obtain ⟨⟨⟨h1, h2⟩, h3⟩, h4⟩ := hok
    unfold awpTS at h
    have hr : Region.ready .any ops listed = [i, j, k] := by simpa using h1
    refine ⟨fun h0 => (by rw [hr] at h0; cases h0), fun x hx => ?_⟩
    have hx2 : x = i ∨ x = j ∨ x = k := by rw [hr] at hx; simpa using hx
    rcases hx2 with rfl | rfl | rfl
    · exact zaQ (zdF h.1) fun t' H' hk => ⟨hk.1, zbV a _ t' H' f (by omega) (hc.set hx) h2 hk.2⟩
    · exact zaQ (zdF h.2.1) fun t' H' hk => ⟨hk.1, zbV b _ t' H' f (by omega) (hc.set hx) h3 hk.2⟩
    · exact zaQ (zdF h.2.2) fun t' H' hk => ⟨hk.1, zbV c _ t' H' f (by omega) (hc.set hx) h4 hk.2⟩
theorem zgK {P : Program} {id : Nat} {ops : Array Oper} {Q : Exit → T → AH → Prop} {t : T} {H : AH} (S : Nat → Prop) (ot : OT) (hm : P.follows .mixedOrders = true) (hok : okOT ops ot (Array.replicate ops.size false) = true) (hl : ot.depth ≤ ops.size)
    (h : awpTS P ops S (Q .normal) ot t H) : awp P (.region id ops true) Q t H := by
  intro base ρ w tmps QC hS hd hQ
  have hA := zbV ot _ t H ops.size hl ⟨by simp, fun j oj hj hl => by rw [zb1] at hl; cases hl⟩ hok h
  refine wp_region_any hm (zhD ops.size _ t H ρ w.drew tmps hA ⟨hS.1.drew, hS.2.ext (zbS (base := base) (H := H) w)⟩ ?_ fun t' H' ρ' w' tmps' hq hs he hz => ?_)
  · intro o ho i hi
    have := List.all_eq_true.1 hd o ho
    simp only [hi, decide_eq_true_eq] at this
    exact this
  · exact hQ .normal t' H' ρ' w' tmps' hq hs ((zbS (base := base) (H := H) (ρ := ρ) w).trans he) hz
theorem zaX (P : Program) (ops : Array Oper) (S : Nat → Prop) (Q : T → AH → Prop) (t : T) (H : AH) : awpTS P ops S Q .nil t H = Q t H := (rfl)
theorem zaY (P : Program) (ops : Array Oper) (S : Nat → Prop) (Q : T → AH → Prop) (i : Nat) (r : OT) (t : T) (H : AH) : awpTS P ops S Q (.one i r) t H = stepIS P ops S (awpTS P ops S Q r) i (ops.toList[i]?) t H := (rfl)
theorem zeF {P : Program} {ops : Array Oper} {S : Nat → Prop} {Q : T → AH → Prop} {i j : Nat} {a b : OT} {t : T} {H : AH} (h : stepIS P ops S (awpTS P ops S Q a) i (ops.toList[i]?) t H) (k : stepIS P ops S (awpTS P ops S Q b) j (ops.toList[j]?) t H) : awpTS P ops S Q (.two i j a b) t H := ⟨h, k⟩
theorem zaB (P : Program) (ops : Array Oper) (S : Nat → Prop) (Q : T → AH → Prop) (r : OT) (t : T) (H : AH) : awpTS P ops S Q (OT.run [] r) t H = awpTS P ops S Q r t H := (rfl)
theorem zaA (P : Program) (ops : Array Oper) (S : Nat → Prop) (Q : T → AH → Prop) (i : Nat) (is : List Nat) (r : OT) (t : T) (H : AH) : awpTS P ops S Q (OT.run (i :: is) r) t H = stepIS P ops S (awpTS P ops S Q (OT.run is r)) i (ops.toList[i]?) t H := (rfl)
@[congr] theorem awpTS_congr {P : Program} {ops : Array Oper} {S : Nat → Prop} {ot : OT} {Q : T → AH → Prop} {t t' : T} {H H' : AH} (h : t = t') (k : H = H') : awpTS P ops S Q ot t H = awpTS P ops S Q ot t' H' := by rw [h, k]
end Go.Abs
end

section
set_option maxRecDepth 100000
set_option maxHeartbeats 2000000
namespace Go.Proofs.YtpienljnoaendaaGreat.A
open Go Go.Abs Go.RowKit
def DrawnC (cv : Value) (nb si : Nat) (H : AH) (v : Value) (H' : AH) : Prop :=
  ∃ (n k : Nat) (u : Value) (l : List Int), v = .agg #[.int .i64 n, u] ∧ (2 ≤ n ∧ n ≤ 14) ∧ k ≤ 40 ∧ VL n l ∧ Dq cv nb si H H' [.cap 14 69 u k (ints l)]
theorem Dq.sub1 {cv : Value} {nb si : Nat} {H H' : AH} {L : List Th} {p : Th} (h : Dq cv nb si H H' L) (k : Nat) (hk : L[k]? = some p) : Dq cv nb si H H' [p] := h.map fun B o => o.sub (fun _ => k) (fun j hj => by
    obtain rfl : j = 0 := by simp at hj; omega
    exact hk) (fun x y hx hy _ => by simp at hx hy; omega)
theorem Dq.toCap {cv : Value} {nb si : Nat} {H H' : AH} {L : List Th} (h : Dq cv nb si H H' L) (k : Nat) {z n : Nat} {ty : TypeId} {v : Value} {vs : List Value} (hk : L[k]? = some (.sl z ty v n vs)) : Dq cv nb si H H' (L.set k (.cap z ty v n vs)) := h.map fun B o => o.toCap k hk
theorem Dq.cut {cv : Value} {nb si : Nat} {H H' : AH} {L : List Th} (h : Dq cv nb si H H' L) (k : Nat) {z n : Nat} {ty : TypeId} {v : Value} {l : List Int} (hk : L[k]? = some (.cap z ty v n (ints l))) {hi : Option Int} {b : Nat} (hb : hi.getD (n : Int) = (b : Int)) (hbn : b ≤ n) :
    ∃ w, (∀ (P : Program) (E : TI) (K : Value → AH → Prop) (H2 : AH), E.size = z → K w H2 → runOut P H2 (sliceE E v none hi none H2) K) ∧ Dq cv nb si H H' (L.set k (.cap z ty w b (ints (l.take (b * z))))) := by
  obtain ⟨B, b1, o⟩ := h.ex
  obtain ⟨w, h1, h2⟩ := o.cut k hk hb hbn
  exact ⟨w, h1, ⟨⟨B, b1, h2⟩⟩⟩
theorem Dq.appC {cv : Value} {nb si : Nat} {H0 : AH} {P : Program} {E : TI} {z n c : Nat} {ty : TypeId} {H : AH} {L : List Th} {v : Value} {vs ms : List Value} {K : Value → AH → Prop} (h : Dq cv nb si H0 H L) (k : Nat) (hk : L[k]? = some (.cap z ty v n vs)) (hz : E.size = z) (hz0 : 0 < z) (hm : ms.length = c * z) (hc : 0 < c) (hb : E.bytes ≤ 32768) (hn : n + c ≤ 4294967296)
    (hK : ∀ v' H', Dq cv nb si H0 H' (L.set k (.cap z ty v' (n + c) (vs ++ ms))) → K v' H') : runOut P H (appE E ty v ms c H) K := by
  obtain ⟨B, b, o⟩ := h.ex
  exact o.appC k hk hz hz0 hm hc hb hn fun v' H' _ o' => hK v' H' ⟨⟨B, b, o'⟩⟩
theorem SrcB.les {cv : Value} {nb si : Nat} {H H' : AH} (k : SrcB cv nb si H H') : LES (fun j => j ≠ si) H H' := ⟨Nat.le_of_eq k.next.symm, fun i r hi hr => by rw [k.row i hi]; exact hr⟩
theorem nextE {cv : Value} {nb si : Nat} {H Hp : AH} {L : List Th} (n : Int) (d : Dq cv nb si H Hp L) (hsi : si < H.next) (hc : CodeX cv nb si H) (hsc : Sc H) (hnb : nb ≤ 4611686018427387904) (hn : n ≤ 9223372036854775807) :
    ACalls Tryz.prog 99 [.pointer (some ⟨si, 0, none⟩), .int .i64 n] Hp (fun v H' => ∃ x : Nat, v = .int .i64 x ∧ ((n < 1 ∧ x = 0) ∨ (x : Int) < n) ∧ LES (fun j => j ≠ si) Hp H' ∧ Dq cv nb si H H' L) := by
  refine (zcE cv nb si n Hp hn hnb (d.src hsi) (d.code hc hsc)).mono ?_
  rintro v H' ⟨x, hv, hx, hS⟩
  exact ⟨x, hv, hx, hS.les, d.next hsi hS⟩
theorem Ow.six1 {B H : AH} {a b c d e f : Th} (o : Ow B H [a, b, c, d, e, f]) : Ow B H [a, b, c, e, f] :=
  o.sub (fun j => ([0, 1, 2, 4, 5] : List Nat).getD j 9) (fun j hj => by
    have hj : j < 5 := hj
    rcases j with _ | _ | _ | _ | _ | j <;> first | rfl | omega) (fun x y hx hy h => by
    have hh : ∀ x, x < 5 → ∀ y, y < 5 → ([0, 1, 2, 4, 5] : List Nat).getD x 9 = ([0, 1, 2, 4, 5] : List Nat).getD y 9 → x = y := by decide
    exact hh x hx y hy h)
theorem Ow.six2 {B H : AH} {a b c d e f : Th} (o : Ow B H [a, b, c, d, e, f]) : Ow B H [a, b, c, f, e] :=
  o.sub (fun j => ([0, 1, 2, 5, 4] : List Nat).getD j 9) (fun j hj => by
    have hj : j < 5 := hj
    rcases j with _ | _ | _ | _ | _ | j <;> first | rfl | omega) (fun x y hx hy h => by
    have hh : ∀ x, x < 5 → ∀ y, y < 5 → ([0, 1, 2, 5, 4] : List Nat).getD x 9 = ([0, 1, 2, 5, 4] : List Nat).getD y 9 → x = y := by decide
    exact hh x hx y hy h)
theorem Ow.six3 {B H : AH} {a b c d e f : Th} (o : Ow B H [a, b, c, d, e, f]) : Ow B H [a, b, c, f, d] :=
  o.sub (fun j => ([0, 1, 2, 5, 3] : List Nat).getD j 9) (fun j hj => by
    have hj : j < 5 := hj
    rcases j with _ | _ | _ | _ | _ | j <;> first | rfl | omega) (fun x y hx hy h => by
    have hh : ∀ x, x < 5 → ∀ y, y < 5 → ([0, 1, 2, 5, 3] : List Nat).getD x 9 = ([0, 1, 2, 5, 3] : List Nat).getD y 9 → x = y := by decide
    exact hh x hx y hy h)
theorem VL.take {n : Nat} {l : List Int} (h : VL n l) (k : Nat) : VL n (l.take k) := fun x hx => h x (List.mem_of_mem_take hx)
theorem l01Draw_c (cv : Value) (nb si : Nat) (H : AH) (hnb : nb ≤ 4611686018427387904) (hs : Src cv nb si H) (hc : CodeX cv nb si H) :
    ACalls Tryz.prog 100 [.pointer (some ⟨si, 0, none⟩)] H (DrawnC cv nb si H) := by
  refine ACalls.wf (by kernel_rfl) fun hsc => za3 [.cell 2 26] Tryz.func100 (by kernel_rfl) rfl rfl (Nat.le_of_ble_eq_true rfl) (by kernel_rfl) ?_
  obtain ⟨_, _, hrow, _⟩ := id hs
  have hsi := hsc _ _ hrow
  clear hrow
  have d0 := (Dq.start hs hsc).push ⟨26, true, [.int .i64 0, .slice none 0 0]⟩
  try simp (disch := first | omega | (simp only [L3] <;> omega)) only [Sall,evalOp,init,binA_s,binE,binI,unE,convE,okNil,builtE,gv,TD.isAgg,resV,↓reduceIte,Nat.reduceEqDiff,reduceCtorEq,Nat.reduceAdd,Nat.reduceMul,Nat.reduceLeDiff,za0,za1,Int.reduceEq,Int.reduceLT,Int.reduceLE,Nat.reduceLT,tiA,tiXA, true_and]
  generalize H.push ⟨26, true, [.int .i64 0, .slice none 0 0]⟩ = H1 at d0 ⊢
  refine ACalls.ex4 (g := fun n _ u _ => .agg #[.int .i64 (n : Nat), u]) (zdU cv nb si H1 hnb (d0.src hsi) (d0.code hc hsc)) ?_
  rintro n k u l H2 ⟨hn1, hn2, hk1, hk2, hV, e1⟩
  have d1 := d0.bind hsi e1
  have hu := d1.one 1 rfl
  have d2 := ((d1.push ⟨26, true, [.int .i64 0, .slice none 0 0]⟩).putRow 2 rfl (cs' := [.int .i64 n, u])).toCap 1 rfl
  refine Holds.mp ?_
  try simp (disch := first | omega | (simp only [L3] <;> omega)) only [Sall,evalOp,init,binA_s,binE,binI,unE,convE,okNil,builtE,gv,TD.isAgg,resV,↓reduceIte,Nat.reduceEqDiff,reduceCtorEq,Nat.reduceAdd,Nat.reduceMul,Nat.reduceLeDiff,za0,za1,Int.reduceEq,Int.reduceLT,Int.reduceLE,Nat.reduceLT,tiA,tiXA, hu]
  obtain ⟨ri, eri⟩ : ∃ ri, ri = H2.next := ⟨_, rfl⟩
  have nri : ¬ ri = si := by have := d1.le; omega
  rw [← eri] at d2 ⊢
  generalize (H2.push ⟨26, true, [.int .i64 0, .slice none 0 0]⟩).setCells ri [.int .i64 n, u] = H3 at d2 ⊢
  refine (nextD 4 d2 hsi hc hsc hnb (by omega)).ex ?_
  rintro x H4 ⟨hx, d3⟩
  have d3 : Dq cv nb si H H4 [.row H.next ⟨26, true, [.int .i64 0, .slice none 0 0]⟩, .cap 14 69 u k (ints l), .row ri ⟨26, true, [.int .i64 n, u]⟩] := d3
  have g0 := d3.rowAt 0 rfl
  have g2 := d3.rowAt 2 rfl
  have hu3 := d3.capOne 1 rfl
  have hlu := (d3.capRs 1 rfl).rd.len
  refine Holds.mp ?_
  by_cases c0 : (x : Int) = 0
  · have f0 : ((x : Int) == 0) = true := beq_iff_eq.2 c0
    try simp (disch := first | omega | (simp only [L3] <;> omega)) only [Sall,evalOp,init,binA_s,binE,binI,unE,convE,okNil,builtE,gv,TD.isAgg,resV,↓reduceIte,Nat.reduceEqDiff,reduceCtorEq,Nat.reduceAdd,Nat.reduceMul,Nat.reduceLeDiff,za0,za1,Int.reduceEq,Int.reduceLT,Int.reduceLE,Nat.reduceLT,tiA,tiXA, f0, g0, g2, hu3]
    exact ⟨n, k, u, l, rfl, ⟨hn1, hn2⟩, by omega, hV, (d3.putRow 0 rfl).sub1 1 rfl⟩
  have f0 : ((x : Int) == 0) = false := beq_eq_false_iff_ne.2 c0
  by_cases c1 : (x : Int) = 1
  · have f1 : ((x : Int) == 1) = true := beq_iff_eq.2 c1
    try simp (disch := first | omega | (simp only [L3] <;> omega)) only [Sall,evalOp,init,binA_s,binE,binI,unE,convE,okNil,builtE,gv,TD.isAgg,resV,↓reduceIte,Nat.reduceEqDiff,reduceCtorEq,Nat.reduceAdd,Nat.reduceMul,Nat.reduceLeDiff,za0,za1,Int.reduceEq,Int.reduceLT,Int.reduceLE,Nat.reduceLT,tiA,tiXA, f0, f1]
    refine zc9 (fun j => j ≠ si) [0, 1, 2, 3, 4, 5, 6, 7, 8, 9, 10] (by kernel_rfl) (by kernel_rfl) (by kernel_rfl) ?_
    try simp (disch := first | omega | (simp only [L3] <;> omega)) only [Sall,evalOp,init,binA_s,binE,binI,unE,convE,okNil,builtE,gv,TD.isAgg,resV,↓reduceIte,Nat.reduceEqDiff,reduceCtorEq,Nat.reduceAdd,Nat.reduceMul,Nat.reduceLeDiff,za0,za1,Int.reduceEq,Int.reduceLT,Int.reduceLE,Nat.reduceLT,tiA,tiXA, zaM, zaG, za8, loadOk, g2, hu3, nri, builtE, hlu, w64]
    refine (nextE ((k : Int) + 1) d3 hsi hc hsc hnb (by omega)).ex ?_
    rintro y H5 ⟨hy, les5, d4⟩
    have hyk : y ≤ k := by omega
    obtain ⟨w, hw, d5⟩ := d4.cut 1 rfl (hi := some (y : Int)) (b := y) rfl hyk
    have g2' := d5.rowAt 2 rfl
    have hw1 := d5.capOne 1 rfl
    refine ⟨.inr (.inr les5), ?_⟩
    try simp (disch := first | omega | (simp only [L3] <;> omega)) only [Sall,evalOp,init,binA_s,binE,binI,unE,convE,okNil,builtE,gv,TD.isAgg,resV,↓reduceIte,Nat.reduceEqDiff,reduceCtorEq,Nat.reduceAdd,Nat.reduceMul,Nat.reduceLeDiff,za0,za1,Int.reduceEq,Int.reduceLT,Int.reduceLE,Nat.reduceLT,tiA,tiXA, zaM, zaG, za8, loadOk, nri]
    refine hw _ _ _ _ rfl ?_
    try simp (disch := first | omega | (simp only [L3] <;> omega)) only [Sall,evalOp,init,binA_s,binE,binI,unE,convE,okNil,builtE,gv,TD.isAgg,resV,↓reduceIte,Nat.reduceEqDiff,reduceCtorEq,Nat.reduceAdd,Nat.reduceMul,Nat.reduceLeDiff,za0,za1,Int.reduceEq,Int.reduceLT,Int.reduceLE,Nat.reduceLT,tiA,tiXA, zaM, zaG, za8, loadOk, g2', hw1, nri]
    have d6 := d5.putRow 2 rfl (cs' := [.int .i64 n, w])
    have hVy := hV.take (y * 14)
    have hy13 : y ≤ 13 := by omega
    refine ⟨.inr (.inl (by kernel_rfl)), ?_⟩
    generalize H5.setCells ri [.int .i64 n, w] = H6 at d6 ⊢
    generalize l.take (y * 14) = l2 at d6 hVy ⊢
    refine (nextD 3 d6 hsi hc hsc hnb (by omega)).ex ?_
    rintro cc H7 ⟨hcc, d7⟩
    refine Holds.mp ?_
    try simp (disch := first | omega | (simp only [L3] <;> omega)) only [Sall,evalOp,init,binA_s,binE,binI,unE,convE,okNil,builtE,gv,TD.isAgg,resV,↓reduceIte,Nat.reduceEqDiff,reduceCtorEq,Nat.reduceAdd,Nat.reduceMul,Nat.reduceLeDiff,za0,za1,Int.reduceEq,Int.reduceLT,Int.reduceLE,Nat.reduceLT,tiA,tiXA, true_and]
    refine za7 (fun z t H' => ∃ (c k' : Nat) (u' : Value) (l' : List Int), z = c ∧ k' + c ≤ 15 ∧ t 4 = .int .i64 c ∧ t 0 = .pointer (some ⟨si, 0, none⟩) ∧ t 2 = .pointer (some ⟨H.next, 0, none⟩) ∧ t 3 = .pointer (some ⟨ri, 0, none⟩) ∧ VL n l' ∧ Dq cv nb si H H' [.row H.next ⟨26, true, [.int .i64 0, .slice none 0 0]⟩, .cap 14 69 u' k' (ints l'), .row ri ⟨26, true, [.int .i64 n, u']⟩]) cc ?_ ?_
    · refine ⟨cc, y, w, l2, rfl, by omega, ?_⟩
      try simp (disch := first | omega | (simp only [L3] <;> omega)) only [Sall,evalOp,init,binA_s,binE,binI,unE,convE,okNil,builtE,gv,TD.isAgg,resV,↓reduceIte,Nat.reduceEqDiff,reduceCtorEq,Nat.reduceAdd,Nat.reduceMul,Nat.reduceLeDiff,za0,za1,Int.reduceEq,Int.reduceLT,Int.reduceLE,Nat.reduceLT,tiA,tiXA, true_and]
      exact ⟨hVy, d7⟩
    · rintro z t H' ⟨c, k', u', l', hz, hkc, h4, h0, h2, h3, hV', d8⟩
      have q0 := d8.rowAt 0 rfl
      have q2 := d8.rowAt 2 rfl
      have hu8 := d8.capOne 1 rfl
      try simp (disch := first | omega | (simp only [L3] <;> omega)) only [Sall,evalOp,init,binA_s,binE,binI,unE,convE,okNil,builtE,gv,TD.isAgg,resV,↓reduceIte,Nat.reduceEqDiff,reduceCtorEq,Nat.reduceAdd,Nat.reduceMul,Nat.reduceLeDiff,za0,za1,Int.reduceEq,Int.reduceLT,Int.reduceLE,Nat.reduceLT,tiA,tiXA, h4]
      refine za6 (fun hh => ?_) (fun hh => ?_)
      · try simp (disch := first | omega | (simp only [L3] <;> omega)) only [Sall,evalOp,init,binA_s,binE,binI,unE,convE,okNil,builtE,gv,TD.isAgg,resV,↓reduceIte,Nat.reduceEqDiff,reduceCtorEq,Nat.reduceAdd,Nat.reduceMul,Nat.reduceLeDiff,za0,za1,Int.reduceEq,Int.reduceLT,Int.reduceLE,Nat.reduceLT,tiA,tiXA, true_and]
        refine zc9 (fun j => j ≠ si) [0, 1, 2, 3, 4, 5, 6, 7, 8, 9] (by kernel_rfl) (by kernel_rfl) (by kernel_rfl) ?_
        try simp (disch := first | omega | (simp only [L3] <;> omega)) only [Sall,evalOp,init,binA_s,binE,binI,unE,convE,okNil,builtE,gv,TD.isAgg,resV,↓reduceIte,Nat.reduceEqDiff,reduceCtorEq,Nat.reduceAdd,Nat.reduceMul,Nat.reduceLeDiff,za0,za1,Int.reduceEq,Int.reduceLT,Int.reduceLE,Nat.reduceLT,tiA,tiXA, zaM, zaG, za8, loadOk, h0, h2, h3, q2, hu8, nri]
        refine (zdL cv nb si n H' ⟨by omega, hn2⟩ hnb (d8.src hsi) (d8.code hc hsc)).ex ?_
        rintro rd H9 ⟨hrl, hR, e9⟩
        have d9 := d8.bind hsi e9
        refine ⟨.inr (.inr (e9.les d8.sc)), ?_⟩
        try simp (disch := first | omega | (simp only [L3] <;> omega)) only [Sall,evalOp,init,binA_s,binE,binI,unE,convE,okNil,builtE,gv,TD.isAgg,resV,↓reduceIte,Nat.reduceEqDiff,reduceCtorEq,Nat.reduceAdd,Nat.reduceMul,Nat.reduceLeDiff,za0,za1,Int.reduceEq,Int.reduceLT,Int.reduceLE,Nat.reduceLT,tiA,tiXA, zaM, zaG, za8, loadOk, nri, hrl, zaO, zbZ]
        (repeat refine And.intro (by omega) ?_)
        refine ⟨.inr (.inr (LE.les (d9.sc.le _))), ?_⟩
        refine (d9.tmp ⟨69, true, ints rd⟩).appC 1 (c := 1) (ms := ints rd) rfl rfl (by omega) (by rw [za2, hrl]) (by omega) (by decide) (by omega) ?_
        intro v' H10 d10
        rw [zaU] at d10
        have q2' := d10.rowAt 2 rfl
        have hv' := d10.capOne 1 rfl
        refine ⟨.inr (.inl (by kernel_rfl)), ?_⟩
        try simp (disch := first | omega | (simp only [L3] <;> omega)) only [Sall,evalOp,init,binA_s,binE,binI,unE,convE,okNil,builtE,gv,TD.isAgg,resV,↓reduceIte,Nat.reduceEqDiff,reduceCtorEq,Nat.reduceAdd,Nat.reduceMul,Nat.reduceLeDiff,za0,za1,Int.reduceEq,Int.reduceLT,Int.reduceLE,Nat.reduceLT,tiA,tiXA, zaM, zaG, za8, loadOk, h3, q2', hv', nri]
        have d11 := d10.putRow 2 rfl (cs' := [.int .i64 n, v'])
        refine ⟨.inr (.inl (by kernel_rfl)), ?_⟩
        try simp (disch := first | omega | (simp only [L3] <;> omega)) only [Sall,evalOp,init,binA_s,binE,binI,unE,convE,okNil,builtE,gv,TD.isAgg,resV,↓reduceIte,Nat.reduceEqDiff,reduceCtorEq,Nat.reduceAdd,Nat.reduceMul,Nat.reduceLeDiff,za0,za1,Int.reduceEq,Int.reduceLT,Int.reduceLE,Nat.reduceLT,tiA,tiXA, h4, h0, h2, h3, w64]
        exact ⟨c - 1, by omega, c - 1, k' + 1, v', _, rfl, by omega, by omega, hV'.app hR, d11⟩
      · try simp (disch := first | omega | (simp only [L3] <;> omega)) only [Sall,evalOp,init,binA_s,binE,binI,unE,convE,okNil,builtE,gv,TD.isAgg,resV,↓reduceIte,Nat.reduceEqDiff,reduceCtorEq,Nat.reduceAdd,Nat.reduceMul,Nat.reduceLeDiff,za0,za1,Int.reduceEq,Int.reduceLT,Int.reduceLE,Nat.reduceLT,tiA,tiXA, h2, h3, q0, q2, hu8]
        exact ⟨n, k', u', l', rfl, ⟨hn1, hn2⟩, by omega, hV', (d8.putRow 0 rfl).sub1 1 rfl⟩
  have f1 : ((x : Int) == 1) = false := beq_eq_false_iff_ne.2 c1
  by_cases c2 : (x : Int) = 2
  · have f2 : ((x : Int) == 2) = true := beq_iff_eq.2 c2
    have f3 : decide ((2 : Int) * (k : Int) ≤ 40) = true := decide_eq_true (by omega)
    try simp (disch := first | omega | (simp only [L3] <;> omega)) only [Sall,evalOp,init,binA_s,binE,binI,unE,convE,okNil,builtE,gv,TD.isAgg,resV,↓reduceIte,Nat.reduceEqDiff,reduceCtorEq,Nat.reduceAdd,Nat.reduceMul,Nat.reduceLeDiff,za0,za1,Int.reduceEq,Int.reduceLT,Int.reduceLE,Nat.reduceLT,tiA,tiXA, f0, f1, f2, g2, hu3, builtE, hlu, w64, f3]
    refine (nextD 2 d3 hsi hc hsc hnb (by omega)).ex ?_
    rintro y H5 ⟨hy, d4⟩
    have q2 := d4.rowAt 2 rfl
    have hu4 := d4.capOne 1 rfl
    refine Holds.mp ?_
    try simp (disch := first | omega | (simp only [L3] <;> omega)) only [Sall,evalOp,init,binA_s,binE,binI,unE,convE,okNil,builtE,gv,TD.isAgg,resV,↓reduceIte,Nat.reduceEqDiff,reduceCtorEq,Nat.reduceAdd,Nat.reduceMul,Nat.reduceLeDiff,za0,za1,Int.reduceEq,Int.reduceLT,Int.reduceLE,Nat.reduceLT,tiA,tiXA, true_and]
    refine zdR (fun t H' => ∃ (k' : Nat) (u' : Value) (l' : List Int), t 2 = .pointer (some ⟨H.next, 0, none⟩) ∧ t 3 = .pointer (some ⟨ri, 0, none⟩) ∧ k' ≤ 40 ∧ VL n l' ∧ Dq cv nb si H H' [.row H.next ⟨26, true, [.int .i64 0, .slice none 0 0]⟩, .cap 14 69 u' k' (ints l'), .row ri ⟨26, true, [.int .i64 n, u']⟩]) (fun _ => ?_) (fun _ => ?_) ?_
    · refine ⟨k, u, l, ?_⟩
      try simp (disch := first | omega | (simp only [L3] <;> omega)) only [Sall,evalOp,init,binA_s,binE,binI,unE,convE,okNil,builtE,gv,TD.isAgg,resV,↓reduceIte,Nat.reduceEqDiff,reduceCtorEq,Nat.reduceAdd,Nat.reduceMul,Nat.reduceLeDiff,za0,za1,Int.reduceEq,Int.reduceLT,Int.reduceLE,Nat.reduceLT,tiA,tiXA, true_and]
      exact ⟨by omega, hV, d4⟩
    · try simp (disch := first | omega | (simp only [L3] <;> omega)) only [Sall,evalOp,init,binA_s,binE,binI,unE,convE,okNil,builtE,gv,TD.isAgg,resV,↓reduceIte,Nat.reduceEqDiff,reduceCtorEq,Nat.reduceAdd,Nat.reduceMul,Nat.reduceLeDiff,za0,za1,Int.reduceEq,Int.reduceLT,Int.reduceLE,Nat.reduceLT,tiA,tiXA, true_and]
      refine zdJ (fun t H' => ∃ (rk : Nat) (u2 : Value) (l2 : List Int), t 2 = .pointer (some ⟨H.next, 0, none⟩) ∧ t 3 = .pointer (some ⟨ri, 0, none⟩) ∧ t 5 = .pointer (some ⟨rk, 0, none⟩) ∧ VL n l2 ∧ Dq cv nb si H H' [.row H.next ⟨26, true, [.int .i64 0, .slice none 0 0]⟩, .cap 14 69 u k (ints l), .row ri ⟨26, true, [.int .i64 n, u]⟩, .sl 14 69 u2 k (ints l2), .row rk ⟨26, true, [.int .i64 n, u2]⟩]) ?_ ?_
      · refine zgK (fun j => j ≠ si) (OT.run [0, 1, 2, 3] (.two 4 6 (OT.run [] (.two 5 6 (OT.run [6, 7] .nil) (OT.run [5, 7] .nil))) (OT.run [4, 5, 7] .nil))) (by kernel_rfl) (by kernel_rfl) (Nat.le_of_ble_eq_true rfl) ?_
        try simp (disch := first | omega | (simp only [L3] <;> omega)) only [Sall,evalOp,init,binA_s,binE,binI,unE,convE,okNil,builtE,gv,TD.isAgg,resV,↓reduceIte,Nat.reduceEqDiff,reduceCtorEq,Nat.reduceAdd,Nat.reduceMul,Nat.reduceLeDiff,za0,za1,Int.reduceEq,Int.reduceLT,Int.reduceLE,Nat.reduceLT,tiA,tiXA, zaB, zaA, zaX, zaY, za8, loadOk, q2, hu4, nri]
        refine zeF ?_ ?_
        · try simp (disch := first | omega | (simp only [L3] <;> omega)) only [Sall,evalOp,init,binA_s,binE,binI,unE,convE,okNil,builtE,gv,TD.isAgg,resV,↓reduceIte,Nat.reduceEqDiff,reduceCtorEq,Nat.reduceAdd,Nat.reduceMul,Nat.reduceLeDiff,za0,za1,Int.reduceEq,Int.reduceLT,Int.reduceLE,Nat.reduceLT,tiA,tiXA, zaB, zaA, zaX, zaY, za8, loadOk, hu4, nri]
          refine (zbQ cv nb si n H5 (by omega) hnb (d4.src hsi) (d4.code hc hsc)).mono ?_
          rintro w H6 ⟨y, B6, k6, o6, hp⟩
          rw [Int.toNat_natCast] at o6 hp
          have d5 := d4.call hsi k6 o6
          have hw := o6.one 0 rfl
          refine ⟨.inr (.inr (les_of k6 o6 d4.sc)), ?_⟩
          try simp (disch := first | omega | (simp only [L3] <;> omega)) only [Sall,evalOp,init,binA_s,binE,binI,unE,convE,okNil,builtE,gv,TD.isAgg,resV,↓reduceIte,Nat.reduceEqDiff,reduceCtorEq,Nat.reduceAdd,Nat.reduceMul,Nat.reduceLeDiff,za0,za1,Int.reduceEq,Int.reduceLT,Int.reduceLE,Nat.reduceLT,tiA,tiXA, zaB, zaA, zaX, zaY, za8, loadOk, hu4, nri, hw]
          refine zeF ?_ ?_
          · try simp (disch := first | omega | (simp only [L3] <;> omega)) only [Sall,evalOp,init,binA_s,binE,binI,unE,convE,okNil,builtE,gv,TD.isAgg,resV,↓reduceIte,Nat.reduceEqDiff,reduceCtorEq,Nat.reduceAdd,Nat.reduceMul,Nat.reduceLeDiff,za0,za1,Int.reduceEq,Int.reduceLT,Int.reduceLE,Nat.reduceLT,tiA,tiXA, zaB, zaA, zaX, zaY, za8, loadOk, hu4, nri]
            refine ACalls.ex2 (zcV n k u w l y H6 ⟨by omega, by omega⟩ (by omega) (d5.capRs 1 rfl).rd hV (d5.rd 3 rfl) hp.rng) ?_
            rintro u' l' H7 ⟨o7, hV'⟩
            have d6 := d5.calls o7
            have hu7 := o7.one 0 rfl
            refine ⟨.inr (.inr (LE.les (o7.up.le d5.sc))), ?_⟩
            try simp (disch := first | omega | (simp only [L3] <;> omega)) only [Sall,evalOp,init,binA_s,binE,binI,unE,convE,okNil,builtE,gv,TD.isAgg,resV,↓reduceIte,Nat.reduceEqDiff,reduceCtorEq,Nat.reduceAdd,Nat.reduceMul,Nat.reduceLeDiff,za0,za1,Int.reduceEq,Int.reduceLT,Int.reduceLE,Nat.reduceLT,tiA,tiXA, zaB, zaA, zaX, zaY, za8, loadOk, hu4, nri, hu7]
            have d7 := (d6.push ⟨26, true, [.int .i64 0, .slice none 0 0]⟩).putRow 5 rfl (cs' := [.int .i64 n, u'])
            exact ⟨.inr (.inr (LE.les (d6.sc.le _))), .inr (.inl (by kernel_rfl)), _, u', l', rfl, hV', d7.map fun B o => Ow.six1 o⟩
          · try simp (disch := first | omega | (simp only [L3] <;> omega)) only [Sall,evalOp,init,binA_s,binE,binI,unE,convE,okNil,builtE,gv,TD.isAgg,resV,↓reduceIte,Nat.reduceEqDiff,reduceCtorEq,Nat.reduceAdd,Nat.reduceMul,Nat.reduceLeDiff,za0,za1,Int.reduceEq,Int.reduceLT,Int.reduceLE,Nat.reduceLT,tiA,tiXA, zaB, zaA, zaX, zaY, za8, loadOk, hu4, nri]
            have d6 := d5.push ⟨26, true, [.int .i64 0, .slice none 0 0]⟩
            refine ⟨.inr (.inr (LE.les (d5.sc.le _))), ?_⟩
            obtain ⟨rk, erk⟩ : ∃ rk, rk = H6.next := ⟨_, rfl⟩
            rw [← erk] at d6 ⊢
            generalize H6.push ⟨26, true, [.int .i64 0, .slice none 0 0]⟩ = H7 at d6 ⊢
            try simp (disch := first | omega | (simp only [L3] <;> omega)) only [Sall,evalOp,init,binA_s,binE,binI,unE,convE,okNil,builtE,gv,TD.isAgg,resV,↓reduceIte,Nat.reduceEqDiff,reduceCtorEq,Nat.reduceAdd,Nat.reduceMul,Nat.reduceLeDiff,za0,za1,Int.reduceEq,Int.reduceLT,Int.reduceLE,Nat.reduceLT,tiA,tiXA, zaB, zaA, zaX, zaY, za8, loadOk, hu4, nri, hw]
            refine ACalls.ex2 (zcV n k u w l y H7 ⟨by omega, by omega⟩ (by omega) (d6.capRs 1 rfl).rd hV (d6.rd 3 rfl) hp.rng) ?_
            rintro u' l' H8 ⟨o7, hV'⟩
            have d7 := d6.calls o7
            have hu7 := o7.one 0 rfl
            refine ⟨.inr (.inr (LE.les (o7.up.le d6.sc))), ?_⟩
            have g7 := d7.rowAt 4 rfl
            try simp (disch := first | omega | (simp only [L3] <;> omega)) only [Sall,evalOp,init,binA_s,binE,binI,unE,convE,okNil,builtE,gv,TD.isAgg,resV,↓reduceIte,Nat.reduceEqDiff,reduceCtorEq,Nat.reduceAdd,Nat.reduceMul,Nat.reduceLeDiff,za0,za1,Int.reduceEq,Int.reduceLT,Int.reduceLE,Nat.reduceLT,tiA,tiXA, zaB, zaA, zaX, zaY, za8, loadOk, hu4, nri, hu7, g7]
            exact ⟨.inr (.inl (by kernel_rfl)), _, u', l', rfl, hV', (d7.putRow 4 rfl).map fun B o => Ow.six2 o⟩
        · try simp (disch := first | omega | (simp only [L3] <;> omega)) only [Sall,evalOp,init,binA_s,binE,binI,unE,convE,okNil,builtE,gv,TD.isAgg,resV,↓reduceIte,Nat.reduceEqDiff,reduceCtorEq,Nat.reduceAdd,Nat.reduceMul,Nat.reduceLeDiff,za0,za1,Int.reduceEq,Int.reduceLT,Int.reduceLE,Nat.reduceLT,tiA,tiXA, zaB, zaA, zaX, zaY, za8, loadOk, hu4, nri]
          have d5 := d4.push ⟨26, true, [.int .i64 0, .slice none 0 0]⟩
          refine ⟨.inr (.inr (LE.les (d4.sc.le _))), ?_⟩
          obtain ⟨rk, erk⟩ : ∃ rk, rk = H5.next := ⟨_, rfl⟩
          rw [← erk] at d5 ⊢
          generalize H5.push ⟨26, true, [.int .i64 0, .slice none 0 0]⟩ = H6 at d5 ⊢
          try simp (disch := first | omega | (simp only [L3] <;> omega)) only [Sall,evalOp,init,binA_s,binE,binI,unE,convE,okNil,builtE,gv,TD.isAgg,resV,↓reduceIte,Nat.reduceEqDiff,reduceCtorEq,Nat.reduceAdd,Nat.reduceMul,Nat.reduceLeDiff,za0,za1,Int.reduceEq,Int.reduceLT,Int.reduceLE,Nat.reduceLT,tiA,tiXA, zaB, zaA, zaX, zaY, za8, loadOk, hu4, nri]
          refine (zbQ cv nb si n H6 (by omega) hnb (d5.src hsi) (d5.code hc hsc)).mono ?_
          rintro w H7 ⟨y, B6, k6, o6, hp⟩
          rw [Int.toNat_natCast] at o6 hp
          have d6 := d5.call hsi k6 o6
          have hw := o6.one 0 rfl
          refine ⟨.inr (.inr (les_of k6 o6 d5.sc)), ?_⟩
          try simp (disch := first | omega | (simp only [L3] <;> omega)) only [Sall,evalOp,init,binA_s,binE,binI,unE,convE,okNil,builtE,gv,TD.isAgg,resV,↓reduceIte,Nat.reduceEqDiff,reduceCtorEq,Nat.reduceAdd,Nat.reduceMul,Nat.reduceLeDiff,za0,za1,Int.reduceEq,Int.reduceLT,Int.reduceLE,Nat.reduceLT,tiA,tiXA, zaB, zaA, zaX, zaY, za8, loadOk, hu4, nri, hw]
          refine ACalls.ex2 (zcV n k u w l y H7 ⟨by omega, by omega⟩ (by omega) (d6.capRs 1 rfl).rd hV (d6.rd 4 rfl) hp.rng) ?_
          rintro u' l' H8 ⟨o7, hV'⟩
          have d7 := d6.calls o7
          have hu7 := o7.one 0 rfl
          refine ⟨.inr (.inr (LE.les (o7.up.le d6.sc))), ?_⟩
          have g7 := d7.rowAt 3 rfl
          try simp (disch := first | omega | (simp only [L3] <;> omega)) only [Sall,evalOp,init,binA_s,binE,binI,unE,convE,okNil,builtE,gv,TD.isAgg,resV,↓reduceIte,Nat.reduceEqDiff,reduceCtorEq,Nat.reduceAdd,Nat.reduceMul,Nat.reduceLeDiff,za0,za1,Int.reduceEq,Int.reduceLT,Int.reduceLE,Nat.reduceLT,tiA,tiXA, zaB, zaA, zaX, zaY, za8, loadOk, hu4, nri, hu7, g7]
          exact ⟨.inr (.inl (by kernel_rfl)), _, u', l', rfl, hV', (d7.putRow 3 rfl).map fun B o => Ow.six3 o⟩
      · rintro t H6 ⟨rk, u2, l2, h2, h3, h5, hV2, d5⟩
        have p2 := d5.rowAt 2 rfl
        have p4 := d5.rowAt 4 rfl
        have hu5 := d5.capOne 1 rfl
        have hu6 := d5.one 3 rfl
        obtain ⟨Bq, bq, oq⟩ := id d5.ex
        obtain ⟨qi, _, _, rfl, hqr⟩ := oq.get 3 rfl (by omega)
        have hl2 := oq.len 3 rfl
        rw [za2] at hl2
        have hsg : seg (ints l2) 0 (k * 14) = ints l2 := zcX _ _ (by rw [za2, hl2])
        try simp (disch := first | omega | (simp only [L3] <;> omega)) only [Sall,evalOp,init,binA_s,binE,binI,unE,convE,okNil,builtE,gv,TD.isAgg,resV,↓reduceIte,Nat.reduceEqDiff,reduceCtorEq,Nat.reduceAdd,Nat.reduceMul,Nat.reduceLeDiff,za0,za1,Int.reduceEq,Int.reduceLT,Int.reduceLE,Nat.reduceLT,tiA,tiXA, h2, h3, h5, p2, p4, hu5, zaO, hqr, hsg, hl2]
        (repeat refine And.intro (by omega) ?_)
        refine d5.appC 1 (c := k) (ms := ints l2) rfl rfl (by omega) (by rw [za2, hl2]) (by omega) (by decide) (by omega) ?_
        intro v' H7 d6
        rw [zaU] at d6
        have p2' := d6.rowAt 2 rfl
        have hv' := d6.capOne 1 rfl
        try simp (disch := first | omega | (simp only [L3] <;> omega)) only [Sall,evalOp,init,binA_s,binE,binI,unE,convE,okNil,builtE,gv,TD.isAgg,resV,↓reduceIte,Nat.reduceEqDiff,reduceCtorEq,Nat.reduceAdd,Nat.reduceMul,Nat.reduceLeDiff,za0,za1,Int.reduceEq,Int.reduceLT,Int.reduceLE,Nat.reduceLT,tiA,tiXA, h2, h3, p2', hv']
        exact ⟨k + k, v', l ++ l2, by omega, hV.app hV2, Dq.left (L := [_, _, _]) (d6.putRow 2 rfl)⟩
    · rintro t H6 ⟨k', u', l', h2, h3, hk', hV', d5⟩
      have p0 := d5.rowAt 0 rfl
      have p2 := d5.rowAt 2 rfl
      have hu5 := d5.capOne 1 rfl
      try simp (disch := first | omega | (simp only [L3] <;> omega)) only [Sall,evalOp,init,binA_s,binE,binI,unE,convE,okNil,builtE,gv,TD.isAgg,resV,↓reduceIte,Nat.reduceEqDiff,reduceCtorEq,Nat.reduceAdd,Nat.reduceMul,Nat.reduceLeDiff,za0,za1,Int.reduceEq,Int.reduceLT,Int.reduceLE,Nat.reduceLT,tiA,tiXA, h2, h3, p0, p2, hu5]
      exact ⟨n, k', u', l', rfl, ⟨hn1, hn2⟩, hk', hV', (d5.putRow 0 rfl).sub1 1 rfl⟩
  have f2 : ((x : Int) == 2) = false := beq_eq_false_iff_ne.2 c2
  try simp (disch := first | omega | (simp only [L3] <;> omega)) only [Sall,evalOp,init,binA_s,binE,binI,unE,convE,okNil,builtE,gv,TD.isAgg,resV,↓reduceIte,Nat.reduceEqDiff,reduceCtorEq,Nat.reduceAdd,Nat.reduceMul,Nat.reduceLeDiff,za0,za1,Int.reduceEq,Int.reduceLT,Int.reduceLE,Nat.reduceLT,tiA,tiXA, f0, f1, f2]
  have e3 := d3.sub1 0 rfl
  refine (nextD 13 e3 hsi hc hsc hnb (by omega)).ex ?_
  rintro y H5 ⟨hy, d4⟩
  obtain ⟨m, hm⟩ : ∃ m : Nat, m = y + 2 := ⟨_, rfl⟩
  have em : (2 : Int) + (y : Int) = (m : Int) := by omega
  refine Holds.mp ?_
  try simp (disch := first | omega | (simp only [L3] <;> omega)) only [Sall,evalOp,init,binA_s,binE,binI,unE,convE,okNil,builtE,gv,TD.isAgg,resV,↓reduceIte,Nat.reduceEqDiff,reduceCtorEq,Nat.reduceAdd,Nat.reduceMul,Nat.reduceLeDiff,za0,za1,Int.reduceEq,Int.reduceLT,Int.reduceLE,Nat.reduceLT,tiA,tiXA, w64, em, zaN]
  have d5 := ((d4.map fun B o => o.pushSl (k := 14) (n := 0) (ty := 69) (vs := ints []) rfl).toCap 1 rfl).push ⟨26, true, [.int .i64 0, .slice none 0 0]⟩
  have d6 := d5.putRow 2 rfl (cs' := [.int .i64 m, .slice (some ⟨H5.next, 0, some 14⟩) 0 0])
  obtain ⟨w, hw⟩ : ∃ w, w = Value.slice (some ⟨H5.next, 0, some 14⟩) 0 0 := ⟨_, rfl⟩
  obtain ⟨rj, erj⟩ : ∃ rj, rj = (H5.push ⟨69, true, ints []⟩).next := ⟨_, rfl⟩
  have nrj : ¬ rj = si := by have h1 : (H5.push ⟨69, true, ints []⟩).next = H5.next + 1 := rfl; have := d4.le; omega
  have erj' : H5.next + 1 = rj := erj.symm
  rw [← hw, ← erj] at d6
  rw [← hw, erj']
  have d6 : Dq cv nb si H (((H5.push ⟨69, true, []⟩).push ⟨26, true, [.int .i64 0, .slice none 0 0]⟩).setCells rj [.int .i64 m, w]) [.row H.next ⟨26, true, [.int .i64 0, .slice none 0 0]⟩, .cap 14 69 w 0 (ints []), .row rj ⟨26, true, [.int .i64 m, w]⟩] := d6
  have nx : H5.next + 2 = (((H5.push ⟨69, true, []⟩).push ⟨26, true, [.int .i64 0, .slice none 0 0]⟩).setCells rj [.int .i64 m, w]).next := rfl
  generalize ((H5.push ⟨69, true, []⟩).push ⟨26, true, [.int .i64 0, .slice none 0 0]⟩).setCells rj [.int .i64 m, w] = H6 at d6 nx ⊢
  have zz3 : zeros 3 [.int .i64 0] = [.int .i64 0, .int .i64 0, .int .i64 0] := rfl
  rw [nx]
  try simp (disch := first | omega | (simp only [L3] <;> omega)) only [Sall,evalOp,init,binA_s,binE,binI,unE,convE,okNil,builtE,gv,TD.isAgg,resV,↓reduceIte,Nat.reduceEqDiff,reduceCtorEq,Nat.reduceAdd,Nat.reduceMul,Nat.reduceLeDiff,za0,za1,Int.reduceEq,Int.reduceLT,Int.reduceLE,Nat.reduceLT,tiA,tiXA, zz3]
  refine (pickL [4, 10, 41] 3 rfl (by omega) (by omega) d6 hsi hc hsc hnb).ex ?_
  rintro p H7 ⟨hp, d7⟩
  have hp2 : p ≤ 41 := by
    simp only [List.mem_cons, List.not_mem_nil, or_false] at hp
    omega
  have hp3 : 4 ≤ p := by
    simp only [List.mem_cons, List.not_mem_nil, or_false] at hp
    omega
  refine Holds.mp ?_
  try simp (disch := first | omega | (simp only [L3] <;> omega)) only [Sall,evalOp,init,binA_s,binE,binI,unE,convE,okNil,builtE,gv,TD.isAgg,resV,↓reduceIte,Nat.reduceEqDiff,reduceCtorEq,Nat.reduceAdd,Nat.reduceMul,Nat.reduceLeDiff,za0,za1,Int.reduceEq,Int.reduceLT,Int.reduceLE,Nat.reduceLT,tiA,tiXA, true_and]
  refine (nextD p d7 hsi hc hsc hnb (by omega)).ex ?_
  rintro cc H8 ⟨hcc, d8⟩
  refine Holds.mp ?_
  try simp (disch := first | omega | (simp only [L3] <;> omega)) only [Sall,evalOp,init,binA_s,binE,binI,unE,convE,okNil,builtE,gv,TD.isAgg,resV,↓reduceIte,Nat.reduceEqDiff,reduceCtorEq,Nat.reduceAdd,Nat.reduceMul,Nat.reduceLeDiff,za0,za1,Int.reduceEq,Int.reduceLT,Int.reduceLE,Nat.reduceLT,tiA,tiXA, true_and]
  refine za7 (fun z t H' => ∃ (c k' : Nat) (u' : Value) (l' : List Int), z = c ∧ k' + c ≤ 40 ∧ t 7 = .int .i64 c ∧ t 0 = .pointer (some ⟨si, 0, none⟩) ∧ t 2 = .pointer (some ⟨H.next, 0, none⟩) ∧ t 6 = .pointer (some ⟨rj, 0, none⟩) ∧ VL m l' ∧ Dq cv nb si H H' [.row H.next ⟨26, true, [.int .i64 0, .slice none 0 0]⟩, .cap 14 69 u' k' (ints l'), .row rj ⟨26, true, [.int .i64 m, u']⟩]) cc ?_ ?_
  · refine ⟨cc, 0, w, [], rfl, by omega, ?_⟩
    try simp (disch := first | omega | (simp only [L3] <;> omega)) only [Sall,evalOp,init,binA_s,binE,binI,unE,convE,okNil,builtE,gv,TD.isAgg,resV,↓reduceIte,Nat.reduceEqDiff,reduceCtorEq,Nat.reduceAdd,Nat.reduceMul,Nat.reduceLeDiff,za0,za1,Int.reduceEq,Int.reduceLT,Int.reduceLE,Nat.reduceLT,tiA,tiXA, true_and]
    exact ⟨VL.nil m, d8⟩
  · rintro z t H' ⟨c, k', u', l', hz, hkc, h7, h0, h2, h6, hV', d8⟩
    have q0 := d8.rowAt 0 rfl
    have q2 := d8.rowAt 2 rfl
    have hu8 := d8.capOne 1 rfl
    try simp (disch := first | omega | (simp only [L3] <;> omega)) only [Sall,evalOp,init,binA_s,binE,binI,unE,convE,okNil,builtE,gv,TD.isAgg,resV,↓reduceIte,Nat.reduceEqDiff,reduceCtorEq,Nat.reduceAdd,Nat.reduceMul,Nat.reduceLeDiff,za0,za1,Int.reduceEq,Int.reduceLT,Int.reduceLE,Nat.reduceLT,tiA,tiXA, h7]
    refine za6 (fun hh => ?_) (fun hh => ?_)
    · try simp (disch := first | omega | (simp only [L3] <;> omega)) only [Sall,evalOp,init,binA_s,binE,binI,unE,convE,okNil,builtE,gv,TD.isAgg,resV,↓reduceIte,Nat.reduceEqDiff,reduceCtorEq,Nat.reduceAdd,Nat.reduceMul,Nat.reduceLeDiff,za0,za1,Int.reduceEq,Int.reduceLT,Int.reduceLE,Nat.reduceLT,tiA,tiXA, true_and]
      refine zc9 (fun j => j ≠ si) [0, 1, 2, 3, 4, 5, 6, 7, 8, 9] (by kernel_rfl) (by kernel_rfl) (by kernel_rfl) ?_
      try simp (disch := first | omega | (simp only [L3] <;> omega)) only [Sall,evalOp,init,binA_s,binE,binI,unE,convE,okNil,builtE,gv,TD.isAgg,resV,↓reduceIte,Nat.reduceEqDiff,reduceCtorEq,Nat.reduceAdd,Nat.reduceMul,Nat.reduceLeDiff,za0,za1,Int.reduceEq,Int.reduceLT,Int.reduceLE,Nat.reduceLT,tiA,tiXA, zaM, zaG, za8, loadOk, h0, h2, h6, q2, hu8, nrj]
      refine (zdL cv nb si m H' ⟨by omega, by omega⟩ hnb (d8.src hsi) (d8.code hc hsc)).ex ?_
      rintro rd H9 ⟨hrl, hR, e9⟩
      have d9 := d8.bind hsi e9
      refine ⟨.inr (.inr (e9.les d8.sc)), ?_⟩
      try simp (disch := first | omega | (simp only [L3] <;> omega)) only [Sall,evalOp,init,binA_s,binE,binI,unE,convE,okNil,builtE,gv,TD.isAgg,resV,↓reduceIte,Nat.reduceEqDiff,reduceCtorEq,Nat.reduceAdd,Nat.reduceMul,Nat.reduceLeDiff,za0,za1,Int.reduceEq,Int.reduceLT,Int.reduceLE,Nat.reduceLT,tiA,tiXA, zaM, zaG, za8, loadOk, nrj, hrl, zaO, zbZ]
      (repeat refine And.intro (by omega) ?_)
      refine ⟨.inr (.inr (LE.les (d9.sc.le _))), ?_⟩
      refine (d9.tmp ⟨69, true, ints rd⟩).appC 1 (c := 1) (ms := ints rd) rfl rfl (by omega) (by rw [za2, hrl]) (by omega) (by decide) (by omega) ?_
      intro v' H10 d10
      rw [zaU] at d10
      have q2' := d10.rowAt 2 rfl
      have hv' := d10.capOne 1 rfl
      refine ⟨.inr (.inl (by kernel_rfl)), ?_⟩
      try simp (disch := first | omega | (simp only [L3] <;> omega)) only [Sall,evalOp,init,binA_s,binE,binI,unE,convE,okNil,builtE,gv,TD.isAgg,resV,↓reduceIte,Nat.reduceEqDiff,reduceCtorEq,Nat.reduceAdd,Nat.reduceMul,Nat.reduceLeDiff,za0,za1,Int.reduceEq,Int.reduceLT,Int.reduceLE,Nat.reduceLT,tiA,tiXA, zaM, zaG, za8, loadOk, h6, q2', hv', nrj]
      have d11 := d10.putRow 2 rfl (cs' := [.int .i64 m, v'])
      refine ⟨.inr (.inl (by kernel_rfl)), ?_⟩
      try simp (disch := first | omega | (simp only [L3] <;> omega)) only [Sall,evalOp,init,binA_s,binE,binI,unE,convE,okNil,builtE,gv,TD.isAgg,resV,↓reduceIte,Nat.reduceEqDiff,reduceCtorEq,Nat.reduceAdd,Nat.reduceMul,Nat.reduceLeDiff,za0,za1,Int.reduceEq,Int.reduceLT,Int.reduceLE,Nat.reduceLT,tiA,tiXA, h7, h0, h2, h6, w64]
      exact ⟨c - 1, by omega, c - 1, k' + 1, v', _, rfl, by omega, by omega, hV'.app hR, d11⟩
    · try simp (disch := first | omega | (simp only [L3] <;> omega)) only [Sall,evalOp,init,binA_s,binE,binI,unE,convE,okNil,builtE,gv,TD.isAgg,resV,↓reduceIte,Nat.reduceEqDiff,reduceCtorEq,Nat.reduceAdd,Nat.reduceMul,Nat.reduceLeDiff,za0,za1,Int.reduceEq,Int.reduceLT,Int.reduceLE,Nat.reduceLT,tiA,tiXA, h2, h6, q0, q2, hu8]
      exact ⟨m, k', u', l', rfl, ⟨by omega, by omega⟩, by omega, hV', (d8.putRow 0 rfl).sub1 1 rfl⟩
end Go.Proofs.YtpienljnoaendaaGreat.A
end

section
set_option maxRecDepth 100000
set_option maxHeartbeats 2000000
namespace Go.Proofs.YtpienljnoaendaaGreat.A
open Go Go.Abs Go.RowKit
theorem l01Copy_c (q : Int) (v : Value) (k : Nat) (l : List Int) (H : AH) (hk : k ≤ 4294967290) (hv : Rd 14 H v k l) (hrow : ∀ i o u n c, v = .slice (some ⟨i, o, u⟩) n c → ∃ r, H.row i = some r ∧ o ≤ r.cells.length) :
    ACalls Tryz.prog 228 [.agg #[.int .i64 q, v]] H (fun r H' => ∃ u, r = .agg #[.int .i64 q, u] ∧ Ow H H' [.cap 14 69 u k (ints l)]) := by
  refine ACalls.wf (by kernel_rfl) fun hs => za3 [.cell 2 26] Tryz.func228 (by kernel_rfl) rfl rfl (Nat.le_of_ble_eq_true rfl) (by kernel_rfl) ?_
  have hone := hv.one
  have hl0 := hv.1
  have o1 := (((Ow.refl hs).push ⟨26, true, [.int .i64 q, v]⟩).push ⟨26, true, [.int .i64 0, .slice none 0 0]⟩)
  have g0 := (o1.rowAt 0 rfl).1
  have g1 := (o1.rowAt 1 rfl).1
  try simp (disch := first | omega | (simp only [L3] <;> omega)) only [Sall,evalOp,init,binA_s,binE,binI,unE,convE,okNil,builtE,gv,TD.isAgg,resV,↓reduceIte,Nat.reduceEqDiff,reduceCtorEq,Nat.reduceAdd,Nat.reduceMul,Nat.reduceLeDiff,za0,za1,Int.reduceEq,Int.reduceLT,Int.reduceLE,Nat.reduceLT,tiA,tiXA, hone]
  generalize (H.push ⟨26, true, [.int .i64 q, v]⟩).push ⟨26, true, [.int .i64 0, .slice none 0 0]⟩ = H1 at o1 g0 g1 ⊢
  have b0 : H.next < H1.next := (o1.rowAt 0 rfl).2.2
  have b1 : H.next + 1 < H1.next := (o1.rowAt 1 rfl).2.2
  refine zc9 (fun j => j < H1.next) [0, 1, 3, 4, 2, 5, 6, 7] (by kernel_rfl) (by kernel_rfl) rfl ?_
  try simp (disch := first | omega | (simp only [L3] <;> omega)) only [Sall,evalOp,init,binA_s,binE,binI,unE,convE,okNil,builtE,gv,TD.isAgg,resV,↓reduceIte,Nat.reduceEqDiff,reduceCtorEq,Nat.reduceAdd,Nat.reduceMul,Nat.reduceLeDiff,za0,za1,Int.reduceEq,Int.reduceLT,Int.reduceLE,Nat.reduceLT,tiA,tiXA, zaM, zaG, za8, loadOk, g0, g1, hone, zaN, b0, b1]
  refine ⟨.inr (.inr (LE.les (o1.sc.le _))), ?_⟩
  have o2 := ((Ow.refl o1.sc).pushSl (k := 14) (n := 0) (ty := 69) (vs := ints []) rfl).toCap 0 rfl
  obtain ⟨w, hw⟩ : ∃ w, w = Value.slice (some ⟨H1.next, 0, some 14⟩) 0 0 := ⟨_, rfl⟩
  rw [← hw] at o2 ⊢
  have o2 : Ow H1 (H1.push ⟨69, true, []⟩) [.cap 14 69 w 0 (ints [])] := o2
  generalize H1.push ⟨69, true, []⟩ = H2 at o2 ⊢
  have oldH : ∀ i r, H.row i = some r → H2.row i = some r := fun i r hr => o2.old o1.sc _ _ (o1.old hs _ _ hr)
  refine o2.appR 0 (c := k) (l := l) rfl (hv.same oldH) (fun i o u n c e => ?_) rfl (by omega) (by decide) (by omega) ?_
  · obtain ⟨r, h1, h2⟩ := hrow i o u n c e
    exact ⟨r, oldH _ _ h1, h2⟩
  intro v' H3 n3 o3
  rw [zaU] at o3
  have g1' : H3.row (H.next + 1) = _ := (o3.low _ b1).trans g1
  have hv1 := o3.capOne 0 rfl
  have hv2 := zbK hv1
  have hv3 := zbB hv1
  refine ⟨.inr (.inr ⟨by have := o2.next; omega, fun i r hi hr => by rw [o3.low i hi, ← o2.low i hi]; exact hr⟩), ?_⟩
  try simp (disch := first | omega | (simp only [L3] <;> omega)) only [Sall,evalOp,init,binA_s,binE,binI,unE,convE,okNil,builtE,gv,TD.isAgg,resV,↓reduceIte,Nat.reduceEqDiff,reduceCtorEq,Nat.reduceAdd,Nat.reduceMul,Nat.reduceLeDiff,za0,za1,Int.reduceEq,Int.reduceLT,Int.reduceLE,Nat.reduceLT,tiA,tiXA, zaM, zaG, za8, loadOk, hv1, hv2, hv3, g1']
  have o4 := (o1.call o3).putRow 1 rfl (cs' := [.int .i64 q, v'])
  refine ⟨.inr (.inl (by kernel_rfl)), v', rfl, ?_⟩
  refine o4.sub (fun _ => 2) (fun j hj => ?_) fun x y hx hy _ => by simp at hx hy; omega
  obtain rfl : j = 0 := by simp at hj; omega
  show some (Th.cap 14 69 v' (0 + k) (ints ([] ++ l))) = _
  rw [Nat.zero_add]; rfl
end Go.Proofs.YtpienljnoaendaaGreat.A
end

section
set_option maxRecDepth 100000
set_option maxHeartbeats 2000000
namespace Go.Proofs.YtpienljnoaendaaGreat.A
open Go Go.Abs Go.RowKit
def RsX (si z : Nat) (H : AH) (v : Value) (k : Nat) (l : List Int) : Prop :=
  ∀ H', (∀ i r, i ≠ si → H.row i = some r → H'.row i = some r) → Rs z H' v k l ∧ ∀ i o u n c, v = .slice (some ⟨i, o, u⟩) n c → ∃ r, H'.row i = some r ∧ o ≤ r.cells.length
def BadS (cv : Value) (nb si : Nat) (v : Value) (k0 : Nat) (l0 : List Int) (H : AH) (r : Value) (H' : AH) : Prop :=
  ∃ (q : Int) (k : Nat) (u : Value) (l : List Int), r = .agg #[.int .i64 q, u] ∧ (-1 ≤ q ∧ q ≤ 15) ∧ k ≤ 41 ∧ (∀ x, x ∈ l → -1 ≤ x ∧ x ≤ 14) ∧ ∃ L, Dq cv nb si H H' L ∧ ((u = v ∧ k = k0 ∧ l = l0) ∨ L[0]? = some (.cap 14 69 u k (ints l)))
theorem VL.bad {n : Nat} {l : List Int} (h : VL n l) (hn : n ≤ 14) : ∀ x, x ∈ l → -1 ≤ x ∧ x ≤ 14 := fun x hx => by
  have := h x hx
  omega
theorem l01Bad_c (cv : Value) (nb si n k : Nat) (v : Value) (l : List Int) (H : AH) (hn : 2 ≤ n ∧ n ≤ 14) (hk : k ≤ 40) (hV : VL n l) (hv : RsX si 14 H v k l) (hnb : nb ≤ 4611686018427387904) (hs : Src cv nb si H) (hc : CodeX cv nb si H) :
    ACalls Tryz.prog 103 [.pointer (some ⟨si, 0, none⟩), .agg #[.int .i64 n, v]] H (BadS cv nb si v k l H) := by
  refine ACalls.wf (by kernel_rfl) fun hsc => za3 [.cell 4 26] Tryz.func103 (by kernel_rfl) rfl rfl (Nat.le_of_ble_eq_true rfl) (by kernel_rfl) ?_
  obtain ⟨_, _, hrow, _⟩ := id hs
  have hsi := hsc _ _ hrow
  clear hrow
  have hone := (hv H fun _ _ _ h => h).1.rd.one
  have d0 := ((Dq.start hs hsc).push ⟨26, true, [.int .i64 n, v]⟩).push ⟨26, true, [.int .i64 0, .slice none 0 0]⟩
  have d0 : Dq cv nb si H ((H.push ⟨26, true, [.int .i64 n, v]⟩).push ⟨26, true, [.int .i64 0, .slice none 0 0]⟩) [.row H.next ⟨26, true, [.int .i64 n, v]⟩, .row (H.next + 1) ⟨26, true, [.int .i64 0, .slice none 0 0]⟩] := d0
  try simp (disch := first | omega | (simp only [L3] <;> omega)) only [Sall,evalOp,init,binA_s,binE,binI,unE,convE,okNil,builtE,gv,TD.isAgg,resV,↓reduceIte,Nat.reduceEqDiff,reduceCtorEq,Nat.reduceAdd,Nat.reduceMul,Nat.reduceLeDiff,za0,za1,Int.reduceEq,Int.reduceLT,Int.reduceLE,Nat.reduceLT,tiA,tiXA, hone]
  generalize (H.push ⟨26, true, [.int .i64 n, v]⟩).push ⟨26, true, [.int .i64 0, .slice none 0 0]⟩ = H1 at d0 ⊢
  obtain ⟨hv1, hv2⟩ := hv H1 (d0.old hsc)
  refine ACalls.ex (g := fun u => .agg #[.int .i64 (n : Int), u]) (l01Copy_c n v k l H1 (by omega) hv1.rd hv2) ?_
  rintro w H2 o2
  have d1 := (d0.calls o2).push ⟨26, true, [.int .i64 0, .slice none 0 0]⟩
  have hw := o2.capOne 0 rfl
  have d2 := d1.putRow 3 rfl (cs' := [.int .i64 n, w])
  refine Holds.mp ?_
  try simp (disch := first | omega | (simp only [L3] <;> omega)) only [Sall,evalOp,init,binA_s,binE,binI,unE,convE,okNil,builtE,gv,TD.isAgg,resV,↓reduceIte,Nat.reduceEqDiff,reduceCtorEq,Nat.reduceAdd,Nat.reduceMul,Nat.reduceLeDiff,za0,za1,Int.reduceEq,Int.reduceLT,Int.reduceLE,Nat.reduceLT,tiA,tiXA, hw]
  obtain ⟨rt, ert⟩ : ∃ rt, rt = H2.next := ⟨_, rfl⟩
  rw [← ert] at d2 ⊢
  have d2 : Dq cv nb si H ((H2.push ⟨26, true, [.int .i64 0, .slice none 0 0]⟩).setCells rt [.int .i64 n, w]) [.row H.next ⟨26, true, [.int .i64 n, v]⟩, .row (H.next + 1) ⟨26, true, [.int .i64 0, .slice none 0 0]⟩, .cap 14 69 w k (ints l), .row rt ⟨26, true, [.int .i64 n, w]⟩] := d2
  generalize (H2.push ⟨26, true, [.int .i64 0, .slice none 0 0]⟩).setCells rt [.int .i64 n, w] = H3 at d2 ⊢
  refine (nextD 50 d2 hsi hc hsc hnb (by omega)).ex ?_
  rintro x H4 ⟨hx, d3⟩
  have g0 := d3.rowAt 0 rfl
  have g1 := d3.rowAt 1 rfl
  have g3 := d3.rowAt 3 rfl
  have hw3 := d3.capOne 2 rfl
  have hlw := (d3.capRs 2 rfl).rd.len
  refine Holds.mp ?_
  -- what is given is handed back
  have back : ∀ H', Dq cv nb si H H' [.row H.next ⟨26, true, [.int .i64 n, v]⟩, .row (H.next + 1) ⟨26, true, [.int .i64 0, .slice none 0 0]⟩] → BadS cv nb si v k l H (.agg #[.int .i64 n, v]) (H'.setCells (H.next + 1) [.int .i64 n, v]) := fun H' d => by
    have d' := d.putRow 1 rfl (cs' := [.int .i64 n, v])
    exact ⟨n, k, v, l, rfl, ⟨by omega, by omega⟩, by omega, hV.bad hn.2, [], Dq.left (L := []) d', .inl ⟨rfl, rfl, rfl⟩⟩
  by_cases c0 : (x : Int) = 0
  · have f0 : ((x : Int) == 0) = true := beq_iff_eq.2 c0
    have zz5 : zeros 5 [.int .i64 0] = [.int .i64 0, .int .i64 0, .int .i64 0, .int .i64 0, .int .i64 0] := rfl
    simp (config := {maxSteps := 3000000}) (disch := first | omega | (simp only [L3] <;> omega)) only [Sall,evalOp,init,binA_s,binE,binI,unE,convE,okNil,builtE,gv,TD.isAgg,resV,↓reduceIte,Nat.reduceEqDiff,reduceCtorEq,Nat.reduceAdd,Nat.reduceMul,Nat.reduceLeDiff,za0,za1,Int.reduceEq,Int.reduceLT,Int.reduceLE,Nat.reduceLT,tiA,tiXA, f0, g0, g1, g3, hone, w64, zz5]
    refine (pickL [1, 15, 0, -1, (n : Int) + 1] 5 rfl (by omega) (by omega) d3 hsi hc hsc hnb).ex ?_
    rintro p H5 ⟨hp, d4⟩
    have hp2 : -1 ≤ p ∧ p ≤ 15 := by
      simp only [List.mem_cons, List.not_mem_nil, or_false] at hp
      omega
    have g1' := d4.rowAt 1 rfl
    have g3' := d4.rowAt 3 rfl
    have hw4 := d4.capOne 2 rfl
    have ne1 : ¬ H.next + 1 = rt := by
      obtain ⟨B, b, o⟩ := d4.ex
      exact o.ne (j := 1) (k := 3) rfl rfl (by omega) (fun S h => h.1) (fun S h => h.1)
    have ne2 : ¬ rt = H.next + 1 := fun e => ne1 e.symm
    have d5 := (d4.putRow 3 rfl (cs' := [.int .i64 p, w])).putRow 1 rfl (cs' := [.int .i64 p, w])
    refine Holds.mp ?_
    try simp (disch := first | omega | (simp only [L3] <;> omega)) only [Sall,evalOp,init,binA_s,binE,binI,unE,convE,okNil,builtE,gv,TD.isAgg,resV,↓reduceIte,Nat.reduceEqDiff,reduceCtorEq,Nat.reduceAdd,Nat.reduceMul,Nat.reduceLeDiff,za0,za1,Int.reduceEq,Int.reduceLT,Int.reduceLE,Nat.reduceLT,tiA,tiXA, g1', g3', hw4, ne1, ne2]
    exact ⟨p, k, w, l, rfl, hp2, by omega, hV.bad hn.2, [_], d5.sub1 2 rfl, .inr rfl⟩
  have f0 : ((x : Int) == 0) = false := beq_eq_false_iff_ne.2 c0
  by_cases c1 : (x : Int) = 1
  · have f1 : ((x : Int) == 1) = true := beq_iff_eq.2 c1
    by_cases hk0 : 0 < k
    · have f2 : decide ((0 : Int) < (k : Int)) = true := decide_eq_true (by omega)
      obtain ⟨B3, b3, o3⟩ := id d3.ex
      obtain ⟨wi, rest, _, _, rfl, hwr⟩ := o3.capGet 2 rfl hk0
      have hll := o3.capLen 2 rfl
      rw [za2] at hll
      have hl14 : (l.take 14).length = 14 := by rw [List.length_take]; omega
      have sg : seg (ints l ++ rest) 0 14 = ints (l.take 14) := by
        simp only [seg, List.drop_zero]
        rw [List.take_append_of_le_length (by rw [za2]; omega)]
        simp [ints, List.map_take]
      have lg : 14 ≤ (ints l ++ rest).length := by rw [List.length_append, za2]; omega
      try simp (disch := first | omega | (simp only [L3] <;> omega)) only [Sall,evalOp,init,binA_s,binE,binI,unE,convE,okNil,builtE,gv,TD.isAgg,resV,↓reduceIte,Nat.reduceEqDiff,reduceCtorEq,Nat.reduceAdd,Nat.reduceMul,Nat.reduceLeDiff,za0,za1,Int.reduceEq,Int.reduceLT,Int.reduceLE,Nat.reduceLT,tiA,tiXA, f0, f1, g3, hw3, builtE, hlw, f2, Int.toNat_zero, hwr, sg, lg, hl14]
      have d4 := (d3.push ⟨69, true, ints (List.replicate 14 0)⟩).putRow 4 rfl (cs' := ints (l.take 14))
      obtain ⟨rk, erk⟩ : ∃ rk, rk = H4.next := ⟨_, rfl⟩
      rw [← erk] at d4 ⊢
      have nwk : ¬ wi = rk := by omega
      have hwr4 : ((H4.push ⟨69, true, ints (List.replicate 14 0)⟩).setCells rk (ints (l.take 14))).row wi = some ⟨69, true, ints l ++ rest⟩ := by
        rw [AH.setCells_row, if_neg nwk, AH.push_row, if_neg (by omega)]; exact hwr
      have d4 : Dq cv nb si H ((H4.push ⟨69, true, ints (List.replicate 14 0)⟩).setCells rk (ints (l.take 14))) [.row H.next ⟨26, true, [.int .i64 n, v]⟩, .row (H.next + 1) ⟨26, true, [.int .i64 0, .slice none 0 0]⟩, .cap 14 69 (.slice (some ⟨wi, 0, some 14⟩) k k) k (ints l), .row rt ⟨26, true, [.int .i64 n, .slice (some ⟨wi, 0, some 14⟩) k k]⟩, .row rk ⟨69, true, ints (l.take 14)⟩] := d4
      generalize (H4.push ⟨69, true, ints (List.replicate 14 0)⟩).setCells rk (ints (l.take 14)) = H5 at d4 hwr4 ⊢
      refine ⟨by omega, ?_⟩
      refine (nextD 14 d4 hsi hc hsc hnb (by omega)).ex ?_
      rintro y H6 ⟨hy, d5⟩
      have zz4 : zeros 4 [.int .i64 0] = [.int .i64 0, .int .i64 0, .int .i64 0, .int .i64 0] := rfl
      refine Holds.mp ?_
      try simp (disch := first | omega | (simp only [L3] <;> omega)) only [Sall,evalOp,init,binA_s,binE,binI,unE,convE,okNil,builtE,gv,TD.isAgg,resV,↓reduceIte,Nat.reduceEqDiff,reduceCtorEq,Nat.reduceAdd,Nat.reduceMul,Nat.reduceLeDiff,za0,za1,Int.reduceEq,Int.reduceLT,Int.reduceLE,Nat.reduceLT,tiA,tiXA, zz4]
      refine (pickL [1, 0, -1, 14] 4 rfl (by omega) (by omega) d5 hsi hc hsc hnb).ex ?_
      rintro p H7 ⟨hp, d6⟩
      have hp2 : -1 ≤ p ∧ p ≤ 14 := by
        simp only [List.mem_cons, List.not_mem_nil, or_false] at hp
        omega
      obtain ⟨B7, b7, o7⟩ := id d6.ex
      obtain ⟨wi', rest', _, _, ew, hwr7⟩ := o7.capGet 2 rfl hk0
      cases ew
      have g1' := d6.rowAt 1 rfl
      have g3' := d6.rowAt 3 rfl
      have g4 := d6.rowAt 4 rfl
      have cm : ∀ S, (Th.cap 14 69 (.slice (some ⟨wi, 0, some 14⟩) k k) k (ints l)).p H7 S → S wi := fun S h => by
        rcases h.2 with ⟨_, h1⟩ | ⟨i', _, h1, h2, _⟩
        · cases h1
        · cases h2; exact h1
      have n1 : ¬ rt = rk := o7.ne (j := 3) (k := 4) rfl rfl (by omega) (fun S h => h.1) (fun S h => h.1)
      have n2 : ¬ wi = rk := o7.ne (j := 2) (k := 4) rfl rfl (by omega) cm (fun S h => h.1)
      have n3 : ¬ rt = wi := o7.ne (j := 3) (k := 2) rfl rfl (by omega) (fun S h => h.1) cm
      have n4 : ¬ H.next + 1 = wi := o7.ne (j := 1) (k := 2) rfl rfl (by omega) (fun S h => h.1) cm
      have n5 : ¬ H.next + 1 = rk := o7.ne (j := 1) (k := 4) rfl rfl (by omega) (fun S h => h.1) (fun S h => h.1)
      have n6 : ¬ rk = wi := fun e => n2 e.symm
      have d7 := d6.putRow 4 rfl (cs' := ints ((l.take 14).set y p))
      have hwr8 : (H7.setCells rk (ints ((l.take 14).set y p))).row wi = some ⟨69, true, ints l ++ rest'⟩ := by rw [AH.setCells_row, if_neg n2]; exact hwr7
      have yn : ((y : Nat) : Int).toNat = y := rfl
      obtain ⟨r2, er⟩ : ∃ r2, r2 = (l.take 14).set y p := ⟨_, rfl⟩
      rw [← er] at d7 hwr8
      have hr14 : r2.length = 14 := by rw [er, List.length_set]; exact hl14
      have hr2 : ∀ x, x ∈ r2 ++ l.drop 14 → -1 ≤ x ∧ x ≤ 14 := by
        intro x hx
        rcases List.mem_append.1 hx with h | h
        · rw [er] at h
          rcases List.mem_or_eq_of_mem_set h with h | h
          · exact hV.bad hn.2 x (List.mem_of_mem_take h)
          · rw [h]; exact hp2
        · exact hV.bad hn.2 x (List.mem_of_mem_drop h)
      have lg' : 14 ≤ (ints l ++ rest').length := by rw [List.length_append, za2]; omega
      have hsp : splice (ints l ++ rest') 0 (ints r2) = ints (r2 ++ l.drop 14) ++ rest' := by
        unfold splice
        rw [List.take_zero, List.nil_append, za2, hr14, Nat.zero_add, List.drop_append_of_le_length (by rw [za2]; omega), ← zaU, List.append_assoc]
        simp [ints, List.map_drop]
      have hl' : (r2 ++ l.drop 14).length = l.length := by rw [List.length_append, List.length_drop, hr14]; omega
      obtain ⟨B8, b8, o8⟩ := id d7.ex
      have d8 : Dq cv nb si H ((H7.setCells rk (ints r2)).setCells wi (ints (r2 ++ l.drop 14) ++ rest')) [.row H.next ⟨26, true, [.int .i64 n, v]⟩, .row (H.next + 1) ⟨26, true, [.int .i64 0, .slice none 0 0]⟩, .cap 14 69 (.slice (some ⟨wi, 0, some 14⟩) k k) k (ints (r2 ++ l.drop 14)), .row rt ⟨26, true, [.int .i64 n, .slice (some ⟨wi, 0, some 14⟩) k k]⟩, .row rk ⟨69, true, ints r2⟩] :=
        ⟨⟨B8, b8, o8.capPut 2 rfl hwr8 (by rw [za2, za2, hl'])⟩⟩
      have d9 := d8.putRow 1 rfl (cs' := [.int .i64 n, .slice (some ⟨wi, 0, some 14⟩) k k])
      have hset : (ints (l.take 14)).set y (.int .i64 p) = ints r2 := by rw [er, zaH]
      refine Holds.mp ?_
      try simp (disch := first | omega | (simp only [L3] <;> omega)) only [Sall,evalOp,init,binA_s,binE,binI,unE,convE,okNil,builtE,gv,TD.isAgg,resV,↓reduceIte,Nat.reduceEqDiff,reduceCtorEq,Nat.reduceAdd,Nat.reduceMul,Nat.reduceLeDiff,za0,za1,Int.reduceEq,Int.reduceLT,Int.reduceLE,Nat.reduceLT,tiA,tiXA, g4, hl14, hset, hr14, g3', g1', hwr7, n1, n2, n3, n4, n5, n6, Int.toNat_zero, lg', hsp]
      (repeat refine And.intro (by omega) ?_)
      exact ⟨n, k, _, _, rfl, ⟨by omega, by omega⟩, by omega, hr2, [_], d9.sub1 2 rfl, .inr rfl⟩
    · have f2 : decide ((0 : Int) < (k : Int)) = false := decide_eq_false (by omega)
      try simp (disch := first | omega | (simp only [L3] <;> omega)) only [Sall,evalOp,init,binA_s,binE,binI,unE,convE,okNil,builtE,gv,TD.isAgg,resV,↓reduceIte,Nat.reduceEqDiff,reduceCtorEq,Nat.reduceAdd,Nat.reduceMul,Nat.reduceLeDiff,za0,za1,Int.reduceEq,Int.reduceLT,Int.reduceLE,Nat.reduceLT,tiA,tiXA, f0, f1, g0, g1, g3, hw3, builtE, hlw, f2, hone]
      exact back _ (Dq.left (L := [_, _]) d3)
  have f1 : ((x : Int) == 1) = false := beq_eq_false_iff_ne.2 c1
  by_cases c2 : (x : Int) = 2
  · have f2 : ((x : Int) == 2) = true := beq_iff_eq.2 c2
    try simp (disch := first | omega | (simp only [L3] <;> omega)) only [Sall,evalOp,init,binA_s,binE,binI,unE,convE,okNil,builtE,gv,TD.isAgg,resV,↓reduceIte,Nat.reduceEqDiff,reduceCtorEq,Nat.reduceAdd,Nat.reduceMul,Nat.reduceLeDiff,za0,za1,Int.reduceEq,Int.reduceLT,Int.reduceLE,Nat.reduceLT,tiA,tiXA, f0, f1, f2]
    refine za7 (fun z t H' => ∃ (k' : Nat) (w' : Value) (l' : List Int), z = 41 - k' ∧ k' ≤ 41 ∧ t 3 = .pointer (some ⟨H.next, 0, none⟩) ∧ t 4 = .pointer (some ⟨H.next + 1, 0, none⟩) ∧ t 5 = .pointer (some ⟨rt, 0, none⟩) ∧ VL n l' ∧ Dq cv nb si H H' [.row H.next ⟨26, true, [.int .i64 n, v]⟩, .row (H.next + 1) ⟨26, true, [.int .i64 0, .slice none 0 0]⟩, .cap 14 69 w' k' (ints l'), .row rt ⟨26, true, [.int .i64 n, w']⟩]) (41 - k) ?_ ?_
    · refine ⟨k, w, l, rfl, by omega, ?_⟩
      try simp (disch := first | omega | (simp only [L3] <;> omega)) only [Sall,evalOp,init,binA_s,binE,binI,unE,convE,okNil,builtE,gv,TD.isAgg,resV,↓reduceIte,Nat.reduceEqDiff,reduceCtorEq,Nat.reduceAdd,Nat.reduceMul,Nat.reduceLeDiff,za0,za1,Int.reduceEq,Int.reduceLT,Int.reduceLE,Nat.reduceLT,tiA,tiXA, true_and]
      exact ⟨hV, d3⟩
    · rintro z t H' ⟨k', w', l', hz, hk', h3, h4, h5, hV', d4⟩
      have p0 := d4.rowAt 0 rfl
      have p1 := d4.rowAt 1 rfl
      have p3 := d4.rowAt 3 rfl
      have hw4 := d4.capOne 2 rfl
      have hlw4 := (d4.capRs 2 rfl).rd.len
      try simp (disch := first | omega | (simp only [L3] <;> omega)) only [Sall,evalOp,init,binA_s,binE,binI,unE,convE,okNil,builtE,gv,TD.isAgg,resV,↓reduceIte,Nat.reduceEqDiff,reduceCtorEq,Nat.reduceAdd,Nat.reduceMul,Nat.reduceLeDiff,za0,za1,Int.reduceEq,Int.reduceLT,Int.reduceLE,Nat.reduceLT,tiA,tiXA, h5, p3, hw4, builtE, hlw4]
      refine za6 (fun hh => ?_) (fun hh => ?_)
      · try simp (disch := first | omega | (simp only [L3] <;> omega)) only [Sall,evalOp,init,binA_s,binE,binI,unE,convE,okNil,builtE,gv,TD.isAgg,resV,↓reduceIte,Nat.reduceEqDiff,reduceCtorEq,Nat.reduceAdd,Nat.reduceMul,Nat.reduceLeDiff,za0,za1,Int.reduceEq,Int.reduceLT,Int.reduceLE,Nat.reduceLT,tiA,tiXA, true_and]
        refine zaR (by kernel_rfl) (by kernel_rfl) ?_
        try simp (disch := first | omega | (simp only [L3] <;> omega)) only [Sall,evalOp,init,binA_s,binE,binI,unE,convE,okNil,builtE,gv,TD.isAgg,resV,↓reduceIte,Nat.reduceEqDiff,reduceCtorEq,Nat.reduceAdd,Nat.reduceMul,Nat.reduceLeDiff,za0,za1,Int.reduceEq,Int.reduceLT,Int.reduceLE,Nat.reduceLT,tiA,tiXA, h3, h5, p0, p3, hw4, hone]
        refine (freeS_c n (by omega) H').to ?_
        have hfl := zaD (n : Int)
        refine ⟨.inr (.inr (LE.refl _)), ?_⟩
        try simp (disch := first | omega | (simp only [L3] <;> omega)) only [Sall,evalOp,init,binA_s,binE,binI,unE,convE,okNil,builtE,gv,TD.isAgg,resV,↓reduceIte,Nat.reduceEqDiff,reduceCtorEq,Nat.reduceAdd,Nat.reduceMul,Nat.reduceLeDiff,za0,za1,Int.reduceEq,Int.reduceLT,Int.reduceLE,Nat.reduceLT,tiA,tiXA, h5, hfl, zaO, zbZ]
        (repeat refine And.intro (by omega) ?_)
        refine ⟨.inr (.inr (d4.sc.le _)), ?_⟩
        refine (d4.tmp ⟨69, true, ints (freeL n)⟩).appC 2 (c := 1) (ms := ints (freeL n)) rfl rfl (by omega) (by rw [za2, hfl]) (by omega) (by decide) (by omega) ?_
        intro v' H10 d10
        rw [zaU] at d10
        have q3 := d10.rowAt 3 rfl
        have hv' := d10.capOne 2 rfl
        refine ⟨.inr (.inl (by kernel_rfl)), ?_⟩
        try simp (disch := first | omega | (simp only [L3] <;> omega)) only [Sall,evalOp,init,binA_s,binE,binI,unE,convE,okNil,builtE,gv,TD.isAgg,resV,↓reduceIte,Nat.reduceEqDiff,reduceCtorEq,Nat.reduceAdd,Nat.reduceMul,Nat.reduceLeDiff,za0,za1,Int.reduceEq,Int.reduceLT,Int.reduceLE,Nat.reduceLT,tiA,tiXA, h5, q3, hv']
        have d11 := d10.putRow 3 rfl (cs' := [.int .i64 n, v'])
        refine ⟨.inr (.inl (by kernel_rfl)), ?_⟩
        try simp (disch := first | omega | (simp only [L3] <;> omega)) only [Sall,evalOp,init,binA_s,binE,binI,unE,convE,okNil,builtE,gv,TD.isAgg,resV,↓reduceIte,Nat.reduceEqDiff,reduceCtorEq,Nat.reduceAdd,Nat.reduceMul,Nat.reduceLeDiff,za0,za1,Int.reduceEq,Int.reduceLT,Int.reduceLE,Nat.reduceLT,tiA,tiXA, h3, h4, h5]
        exact ⟨41 - (k' + 1), by omega, k' + 1, v', _, rfl, by omega, hV'.app (freeVL (by omega)), d11⟩
      · have d5 := d4.putRow 1 rfl (cs' := [.int .i64 n, w'])
        try simp (disch := first | omega | (simp only [L3] <;> omega)) only [Sall,evalOp,init,binA_s,binE,binI,unE,convE,okNil,builtE,gv,TD.isAgg,resV,↓reduceIte,Nat.reduceEqDiff,reduceCtorEq,Nat.reduceAdd,Nat.reduceMul,Nat.reduceLeDiff,za0,za1,Int.reduceEq,Int.reduceLT,Int.reduceLE,Nat.reduceLT,tiA,tiXA, h4, h5, p1, p3, hw4]
        exact ⟨n, k', w', l', rfl, ⟨by omega, by omega⟩, hk', hV'.bad hn.2, [_], d5.sub1 2 rfl, .inr rfl⟩
  have f2 : ((x : Int) == 2) = false := beq_eq_false_iff_ne.2 c2
  try simp (disch := first | omega | (simp only [L3] <;> omega)) only [Sall,evalOp,init,binA_s,binE,binI,unE,convE,okNil,builtE,gv,TD.isAgg,resV,↓reduceIte,Nat.reduceEqDiff,reduceCtorEq,Nat.reduceAdd,Nat.reduceMul,Nat.reduceLeDiff,za0,za1,Int.reduceEq,Int.reduceLT,Int.reduceLE,Nat.reduceLT,tiA,tiXA, f0, f1, f2, g0, g1, hone]
  exact back _ (Dq.left (L := [_, _]) d3)
end Go.Proofs.YtpienljnoaendaaGreat.A
end

section
set_option maxRecDepth 100000
namespace Go.Proofs.YtpienljnoaendaaGreat.A
open Go Go.Abs Go.RowKit
end Go.Proofs.YtpienljnoaendaaGreat.A
end

section
set_option maxRecDepth 100000
namespace Go.Proofs.YtpienljnoaendaaGreat.A
open Go Go.Abs Go.RowKit
end Go.Proofs.YtpienljnoaendaaGreat.A
end

section
set_option maxRecDepth 100000
namespace Go.Proofs.YtpienljnoaendaaGreat.A
open Go Go.Abs Go.RowKit
theorem pairs_c (n : Nat) (r : List Int) (hr : r.length = 14) (hn : n ≤ 14) (H : AH) : ACalls Tryz.prog 106 [.agg (ints r).toArray, .int .i64 n] H (fun v H' => Up H.next H H' ∧ Fr2 1 33 2 H.next H'.next H' v (pairsL r n)) := by
  refine za3 [.tmp 4] Tryz.func106 (by kernel_rfl) rfl rfl (Nat.le_of_ble_eq_true rfl) (by kernel_rfl) ?_
  try simp (disch := first | omega | (simp only [za2, List.length_replicate] <;> omega)) only [Sall,evalOp,init,binA_s,binE,binI,unE,convE,okNil,builtE,gv,TD.isAgg,resV,↓reduceIte,Nat.reduceEqDiff,reduceCtorEq,Nat.reduceAdd,Nat.reduceMul,Nat.reduceLeDiff,za0,za1,Int.reduceEq,Int.reduceLT,Int.reduceLE,Nat.reduceLT,tiA, zaN]
  refine za7 (fun m t H' => ∃ (a : Nat) (u : Value) (lo hi : Nat), m = n - a ∧ a ≤ n ∧ t 9 = .int .i64 a ∧ t 8 = .int .i64 n ∧ t 5 = u ∧ t 2 = .pointer (some ⟨H.next, 0, none⟩) ∧ Up H.next H H' ∧ H'.row H.next = some ⟨69, true, ints r⟩ ∧
    H.next < lo ∧ lo ≤ hi ∧ hi ≤ H'.next ∧ Fr2 1 33 2 lo hi H' u (pairsL r a)) n ?_ ?_
  · refine ⟨0, .slice (some ⟨H.next + 1, 0, some 1⟩) 0 0, H.next + 1, H.next + 2, by omega, by omega, ?_⟩
    try simp (disch := first | omega | (simp only [za2, List.length_replicate] <;> omega)) only [Sall,evalOp,init,binA_s,binE,binI,unE,convE,okNil,builtE,gv,TD.isAgg,resV,↓reduceIte,Nat.reduceEqDiff,reduceCtorEq,Nat.reduceAdd,Nat.reduceMul,Nat.reduceLeDiff,za0,za1,Int.reduceEq,Int.reduceLT,Int.reduceLE,Nat.reduceLT,tiA, Int.natCast_zero]
    refine ⟨((Up.refl _ H).push (by omega) _).push (Nat.le_succ _) _, by omega, by omega, ?_⟩
    exact .inr ⟨H.next + 1, [], fun _ => H.next + 2, by omega, by omega, rfl, by rw [AH.push_row, if_pos (by rw [AH.push_next])], rfl, by dsimp only; omega, by dsimp only; omega, .inl (by dsimp only; omega), fun _ => Nat.le_refl _, fun j hj => by simp [zfC] at hj⟩
  · rintro m t H' ⟨a, u, lo, hi, hm, h14, h9, h8, h5, h2, hup, hr1, hlo, hlh, hhi, hfr⟩
    try simp (disch := first | omega | (simp only [za2, List.length_replicate] <;> omega)) only [Sall,evalOp,init,binA_s,binE,binI,unE,convE,okNil,builtE,gv,TD.isAgg,resV,↓reduceIte,Nat.reduceEqDiff,reduceCtorEq,Nat.reduceAdd,Nat.reduceMul,Nat.reduceLeDiff,za0,za1,Int.reduceEq,Int.reduceLT,Int.reduceLE,Nat.reduceLT,tiA, h9, h8]
    refine za6 (fun h => ?_) (fun h => ?_)
    · by_cases hp : (a : Int) < r.getD a 0
      · have hle := zbE r a
        have ne1 : ¬ H.next = H'.next := by omega
        try simp (disch := first | omega | (simp only [za2, List.length_replicate] <;> omega)) only [Sall,evalOp,init,binA_s,binE,binI,unE,convE,okNil,builtE,gv,TD.isAgg,resV,↓reduceIte,Nat.reduceEqDiff,reduceCtorEq,Nat.reduceAdd,Nat.reduceMul,Nat.reduceLeDiff,za0,za1,Int.reduceEq,Int.reduceLT,Int.reduceLE,Nat.reduceLT,tiA, h9, h8, h5, h2, hr1, ints_get?, hp, decide_true, zbZ, zi2, zaO, ne1]
        refine ⟨⟨by omega, by omega⟩, ⟨by omega, by omega⟩, ?_⟩
        obtain ⟨H2, e2⟩ : ∃ H2, H2 = (H'.push ⟨2, true, [.int .i64 a, .int .i64 (r.getD a 0)]⟩).push ⟨33, true, [.slice (some ⟨H'.next, 0, some 1⟩) 2 2]⟩ := ⟨_, rfl⟩
        have n2 : H2.next = H'.next + 2 := by rw [e2]; rfl
        have s2 : ∀ i, i < H'.next → H2.row i = H'.row i := fun i hi => by rw [e2, AH.push_row, if_neg (by rw [AH.push_next]; omega), AH.push_row, if_neg (by omega)]
        have x2 : H2.row H'.next = some ⟨2, true, ints [(a : Int), r.getD a 0]⟩ := by rw [e2, AH.push_row, if_neg (by rw [AH.push_next]; omega), AH.push_row, if_pos rfl]; rfl
        rw [← e2]
        clear e2
        refine zgH (hfr.same fun i _ hi => s2 i (by omega)) (m := 2) (l := [(a : Int), r.getD a 0]) ⟨rfl, .inr ⟨H'.next, by omega, by omega, rfl, x2⟩⟩ rfl (by decide) (by omega) hlh (by omega) ?_
        intro v' H3 n3 s3 f3
        try simp (disch := first | omega | (simp only [za2, List.length_replicate] <;> omega)) only [Sall,evalOp,init,binA_s,binE,binI,unE,convE,okNil,builtE,gv,TD.isAgg,resV,↓reduceIte,Nat.reduceEqDiff,reduceCtorEq,Nat.reduceAdd,Nat.reduceMul,Nat.reduceLeDiff,za0,za1,Int.reduceEq,Int.reduceLT,Int.reduceLE,Nat.reduceLT,tiA, h9, h8, h2, w64]
        refine ⟨n - (a + 1), by omega, a + 1, v', lo, H2.next + 1, rfl, by omega, by omega, rfl, ⟨by have := hup.next; omega, fun i hi => ?_⟩, ?_, by omega, by omega, by omega, ?_⟩
        · rw [s3 i (by omega) (by omega), s2 i (by have := hup.next; omega), hup.row i hi]
        · rw [s3 _ (by omega) (by omega), s2 _ (by omega), hr1]
        · rw [zf4 r a hp]; exact f3
      · try simp (disch := first | omega | (simp only [za2, List.length_replicate] <;> omega)) only [Sall,evalOp,init,binA_s,binE,binI,unE,convE,okNil,builtE,gv,TD.isAgg,resV,↓reduceIte,Nat.reduceEqDiff,reduceCtorEq,Nat.reduceAdd,Nat.reduceMul,Nat.reduceLeDiff,za0,za1,Int.reduceEq,Int.reduceLT,Int.reduceLE,Nat.reduceLT,tiA, h9, h8, h5, h2, hr1, ints_get?, hp, decide_false, w64]
        refine ⟨⟨by omega, by omega⟩, n - (a + 1), by omega, a + 1, u, lo, hi, rfl, by omega, by omega, ?_⟩
        rw [zgE r a hp]
        and_intros <;> first | omega | rfl | assumption
    · have ha : a = n := by omega
      subst ha
      try simp (disch := first | omega | (simp only [za2, List.length_replicate] <;> omega)) only [Sall,evalOp,init,binA_s,binE,binI,unE,convE,okNil,builtE,gv,TD.isAgg,resV,↓reduceIte,Nat.reduceEqDiff,reduceCtorEq,Nat.reduceAdd,Nat.reduceMul,Nat.reduceLeDiff,za0,za1,Int.reduceEq,Int.reduceLT,Int.reduceLE,Nat.reduceLT,tiA, h5]
      exact ⟨hup, hfr.wide (by omega) hhi⟩
theorem zcP (n : Nat) (r : List Int) (hr : r.length = 14) (hn : n ≤ 14) (H : AH) : ACalls Tryz.prog 111 [.int .i64 n, .agg (ints r).toArray] H (fun v H' => Up H.next H H' ∧ Fr2 1 33 2 H.next H'.next H' v (pairsL r n)) := by
  refine za3 [.tmp 4] Tryz.func111 (by kernel_rfl) rfl rfl (Nat.le_of_ble_eq_true rfl) (by kernel_rfl) ?_
  try simp (disch := first | omega | (simp only [za2, List.length_replicate] <;> omega)) only [Sall,evalOp,init,binA_s,binE,binI,unE,convE,okNil,builtE,gv,TD.isAgg,resV,↓reduceIte,Nat.reduceEqDiff,reduceCtorEq,Nat.reduceAdd,Nat.reduceMul,Nat.reduceLeDiff,za0,za1,Int.reduceEq,Int.reduceLT,Int.reduceLE,Nat.reduceLT,tiA, zaN]
  refine za7 (fun m t H' => ∃ (a : Nat) (u : Value) (lo hi : Nat), m = n - a ∧ a ≤ n ∧ t 6 = .int .i64 a ∧ t 0 = .int .i64 n ∧ t 5 = u ∧ t 3 = .pointer (some ⟨H.next, 0, none⟩) ∧ Up H.next H H' ∧ H'.row H.next = some ⟨69, true, ints r⟩ ∧
    H.next < lo ∧ lo ≤ hi ∧ hi ≤ H'.next ∧ Fr2 1 33 2 lo hi H' u (pairsL r a)) n ?_ ?_
  · refine ⟨0, .slice (some ⟨H.next + 1, 0, some 1⟩) 0 0, H.next + 1, H.next + 2, by omega, by omega, ?_⟩
    try simp (disch := first | omega | (simp only [za2, List.length_replicate] <;> omega)) only [Sall,evalOp,init,binA_s,binE,binI,unE,convE,okNil,builtE,gv,TD.isAgg,resV,↓reduceIte,Nat.reduceEqDiff,reduceCtorEq,Nat.reduceAdd,Nat.reduceMul,Nat.reduceLeDiff,za0,za1,Int.reduceEq,Int.reduceLT,Int.reduceLE,Nat.reduceLT,tiA, Int.natCast_zero]
    refine ⟨((Up.refl _ H).push (by omega) _).push (Nat.le_succ _) _, by omega, by omega, ?_⟩
    exact .inr ⟨H.next + 1, [], fun _ => H.next + 2, by omega, by omega, rfl, by rw [AH.push_row, if_pos (by rw [AH.push_next])], rfl, by dsimp only; omega, by dsimp only; omega, .inl (by dsimp only; omega), fun _ => Nat.le_refl _, fun j hj => by simp [zfC] at hj⟩
  · rintro m t H' ⟨a, u, lo, hi, hm, h14, h9, h8, h5, h2, hup, hr1, hlo, hlh, hhi, hfr⟩
    try simp (disch := first | omega | (simp only [za2, List.length_replicate] <;> omega)) only [Sall,evalOp,init,binA_s,binE,binI,unE,convE,okNil,builtE,gv,TD.isAgg,resV,↓reduceIte,Nat.reduceEqDiff,reduceCtorEq,Nat.reduceAdd,Nat.reduceMul,Nat.reduceLeDiff,za0,za1,Int.reduceEq,Int.reduceLT,Int.reduceLE,Nat.reduceLT,tiA, h9, h8]
    refine za6 (fun h => ?_) (fun h => ?_)
    · by_cases hp : (a : Int) < r.getD a 0
      · have hle := zbE r a
        have ne1 : ¬ H.next = H'.next := by omega
        try simp (disch := first | omega | (simp only [za2, List.length_replicate] <;> omega)) only [Sall,evalOp,init,binA_s,binE,binI,unE,convE,okNil,builtE,gv,TD.isAgg,resV,↓reduceIte,Nat.reduceEqDiff,reduceCtorEq,Nat.reduceAdd,Nat.reduceMul,Nat.reduceLeDiff,za0,za1,Int.reduceEq,Int.reduceLT,Int.reduceLE,Nat.reduceLT,tiA, h9, h8, h5, h2, hr1, ints_get?, hp, decide_true, zbZ, zi2, zaO, ne1]
        refine ⟨⟨by omega, by omega⟩, ⟨by omega, by omega⟩, ?_⟩
        obtain ⟨H2, e2⟩ : ∃ H2, H2 = (H'.push ⟨2, true, [.int .i64 a, .int .i64 (r.getD a 0)]⟩).push ⟨33, true, [.slice (some ⟨H'.next, 0, some 1⟩) 2 2]⟩ := ⟨_, rfl⟩
        have n2 : H2.next = H'.next + 2 := by rw [e2]; rfl
        have s2 : ∀ i, i < H'.next → H2.row i = H'.row i := fun i hi => by rw [e2, AH.push_row, if_neg (by rw [AH.push_next]; omega), AH.push_row, if_neg (by omega)]
        have x2 : H2.row H'.next = some ⟨2, true, ints [(a : Int), r.getD a 0]⟩ := by rw [e2, AH.push_row, if_neg (by rw [AH.push_next]; omega), AH.push_row, if_pos rfl]; rfl
        rw [← e2]
        clear e2
        refine zgH (hfr.same fun i _ hi => s2 i (by omega)) (m := 2) (l := [(a : Int), r.getD a 0]) ⟨rfl, .inr ⟨H'.next, by omega, by omega, rfl, x2⟩⟩ rfl (by decide) (by omega) hlh (by omega) ?_
        intro v' H3 n3 s3 f3
        try simp (disch := first | omega | (simp only [za2, List.length_replicate] <;> omega)) only [Sall,evalOp,init,binA_s,binE,binI,unE,convE,okNil,builtE,gv,TD.isAgg,resV,↓reduceIte,Nat.reduceEqDiff,reduceCtorEq,Nat.reduceAdd,Nat.reduceMul,Nat.reduceLeDiff,za0,za1,Int.reduceEq,Int.reduceLT,Int.reduceLE,Nat.reduceLT,tiA, h9, h8, h2, w64]
        refine ⟨n - (a + 1), by omega, a + 1, v', lo, H2.next + 1, rfl, by omega, by omega, rfl, ⟨by have := hup.next; omega, fun i hi => ?_⟩, ?_, by omega, by omega, by omega, ?_⟩
        · rw [s3 i (by omega) (by omega), s2 i (by have := hup.next; omega), hup.row i hi]
        · rw [s3 _ (by omega) (by omega), s2 _ (by omega), hr1]
        · rw [zf4 r a hp]; exact f3
      · try simp (disch := first | omega | (simp only [za2, List.length_replicate] <;> omega)) only [Sall,evalOp,init,binA_s,binE,binI,unE,convE,okNil,builtE,gv,TD.isAgg,resV,↓reduceIte,Nat.reduceEqDiff,reduceCtorEq,Nat.reduceAdd,Nat.reduceMul,Nat.reduceLeDiff,za0,za1,Int.reduceEq,Int.reduceLT,Int.reduceLE,Nat.reduceLT,tiA, h9, h8, h5, h2, hr1, ints_get?, hp, decide_false, w64]
        refine ⟨⟨by omega, by omega⟩, n - (a + 1), by omega, a + 1, u, lo, hi, rfl, by omega, by omega, ?_⟩
        rw [zgE r a hp]
        and_intros <;> first | omega | rfl | assumption
    · have ha : a = n := by omega
      subst ha
      try simp (disch := first | omega | (simp only [za2, List.length_replicate] <;> omega)) only [Sall,evalOp,init,binA_s,binE,binI,unE,convE,okNil,builtE,gv,TD.isAgg,resV,↓reduceIte,Nat.reduceEqDiff,reduceCtorEq,Nat.reduceAdd,Nat.reduceMul,Nat.reduceLeDiff,za0,za1,Int.reduceEq,Int.reduceLT,Int.reduceLE,Nat.reduceLT,tiA, h5]
      exact ⟨hup, hfr.wide (by omega) hhi⟩
end Go.Proofs.YtpienljnoaendaaGreat.A
end

section
set_option maxRecDepth 100000
set_option maxHeartbeats 2000000
namespace Go.Proofs.YtpienljnoaendaaGreat.A
open Go Go.Abs Go.RowKit
theorem awp_cut3 {P : Program} {a b c d : Code} {Q : Exit → T → AH → Prop} {t : T} {H : AH} (M : T → AH → Prop) (h : awp P (a.seq (b.seq c)) (seqQ M Q) t H) (k : ∀ t H, M t H → awp P d Q t H) : awp P (a.seq (b.seq (c.seq d))) Q t H := by
  rw [zeS] at h ⊢
  refine zbP a _ _ t H (fun e t H h => ?_) h
  cases e with
  | normal =>
    simp only [zd8] at h ⊢
    rw [zeS] at h ⊢
    refine zbP b _ _ t H (fun e t H h => ?_) h
    cases e with
    | normal =>
      simp only [zd8] at h ⊢
      rw [zeS]
      refine zbP c _ _ t H (fun e t H h => ?_) h
      cases e with
      | normal => exact k _ _ h
      | _ => exact h
    | _ => exact h
  | _ => exact h
theorem awp_cut1 {P : Program} {a d : Code} {Q : Exit → T → AH → Prop} {t : T} {H : AH} (M : T → AH → Prop) (h : awp P a (seqQ M Q) t H) (k : ∀ t H, M t H → awp P d Q t H) : awp P (a.seq d) Q t H := by
  rw [zeS]
  exact zbP a _ _ t H (zdA k fun _ _ _ h => h) h
theorem Ow.four {B H : AH} {a b c d : Th} (o : Ow B H [a, b, c, d]) : Ow B H [a, d, c] :=
  o.sub (fun j => ([0, 3, 2] : List Nat).getD j 9) (fun j hj => by
    have hj : j < 3 := hj
    rcases j with _ | _ | _ | j <;> first | rfl | omega) (fun x y hx hy h => by
    have hh : ∀ x, x < 3 → ∀ y, y < 3 → ([0, 3, 2] : List Nat).getD x 9 = ([0, 3, 2] : List Nat).getD y 9 → x = y := by decide
    exact hh x hx y hy h)
theorem l10DrawOf_c (cv : Value) (nb si : Nat) (H : AH) (hnb : nb ≤ 4611686018427387904) (hs : Src cv nb si H) (hc : CodeX cv nb si H) :
    ACalls Tryz.prog 270 [.pointer (some ⟨si, 0, none⟩)] H (fun r H' => ∃ (n k : Nat) (u : Value × Value) (l : List Int × List (List Int)), r = .tuple #[.agg #[.int .i64 n, u.1], u.2] ∧ (2 ≤ n ∧ n ≤ 14) ∧ k ≤ 40 ∧ VL n l.1 ∧ l.2.length ≤ k ∧ (∀ j, j < l.2.length → (l.2.getD j []).length ≤ 14 ∧ ∀ x, x ∈ l.2.getD j [] → 0 ≤ x ∧ x ≤ 2) ∧ Dq cv nb si H H' [.cap 14 69 u.1 k (ints l.1), .sl2 (Value.int .i64) 33 2 u.2 l.2]) := by
  refine ACalls.wf (by kernel_rfl) fun hsc => za3 [.cell 2 26, .tmp 3] Tryz.func270 (by kernel_rfl) rfl rfl (Nat.le_of_ble_eq_true rfl) (by kernel_rfl) ?_
  obtain ⟨_, _, hrow, _⟩ := id hs
  have hsi := hsc _ _ hrow
  clear hrow
  refine awp_cut3 (fun t H' => ∃ (n k ri : Nat) (u : Value) (l : List Int), t 0 = .pointer (some ⟨si, 0, none⟩) ∧ t 2 = .pointer (some ⟨H.next, 0, none⟩) ∧ t 4 = .pointer (some ⟨ri, 0, none⟩) ∧ (2 ≤ n ∧ n ≤ 14) ∧ k ≤ 40 ∧ VL n l ∧ Dq cv nb si H H' [.row H.next ⟨26, true, [.int .i64 0, .slice none 0 0]⟩, .cap 14 69 u k (ints l), .row ri ⟨26, true, [.int .i64 n, u]⟩]) ?_ ?_
  · have d0 := (Dq.start hs hsc).push ⟨26, true, [.int .i64 0, .slice none 0 0]⟩
    try simp (disch := first | omega | (simp only [L3] <;> omega)) only [Sall,evalOp,init,binA_s,binE,binI,unE,convE,okNil,builtE,gv,TD.isAgg,resV,↓reduceIte,Nat.reduceEqDiff,reduceCtorEq,Nat.reduceAdd,Nat.reduceMul,Nat.reduceLeDiff,za0,za1,Int.reduceEq,Int.reduceLT,Int.reduceLE,Nat.reduceLT,tiA,tiXA, true_and]
    generalize H.push ⟨26, true, [.int .i64 0, .slice none 0 0]⟩ = H1 at d0 ⊢
    refine ACalls.ex4 (g := fun n _ u _ => .agg #[.int .i64 (n : Nat), u]) (zdU cv nb si H1 hnb (d0.src hsi) (d0.code hc hsc)) ?_
    rintro n k u l H2 ⟨hn1, hn2, hk1, hk2, hV, e1⟩
    have d1 := d0.bind hsi e1
    have hu := d1.one 1 rfl
    have d2 := ((d1.push ⟨26, true, [.int .i64 0, .slice none 0 0]⟩).putRow 2 rfl (cs' := [.int .i64 n, u])).toCap 1 rfl
    refine Holds.mp ?_
    try simp (disch := first | omega | (simp only [L3] <;> omega)) only [Sall,evalOp,init,binA_s,binE,binI,unE,convE,okNil,builtE,gv,TD.isAgg,resV,↓reduceIte,Nat.reduceEqDiff,reduceCtorEq,Nat.reduceAdd,Nat.reduceMul,Nat.reduceLeDiff,za0,za1,Int.reduceEq,Int.reduceLT,Int.reduceLE,Nat.reduceLT,tiA,tiXA, hu]
    obtain ⟨ri, eri⟩ : ∃ ri, ri = H2.next := ⟨_, rfl⟩
    have nri : ¬ ri = si := by have := d1.le; omega
    rw [← eri] at d2 ⊢
    generalize (H2.push ⟨26, true, [.int .i64 0, .slice none 0 0]⟩).setCells ri [.int .i64 n, u] = H3 at d2 ⊢
    refine (nextD 4 d2 hsi hc hsc hnb (by omega)).ex ?_
    rintro x H4 ⟨hx, d3⟩
    have d3 : Dq cv nb si H H4 [.row H.next ⟨26, true, [.int .i64 0, .slice none 0 0]⟩, .cap 14 69 u k (ints l), .row ri ⟨26, true, [.int .i64 n, u]⟩] := d3
    refine Holds.mp ?_
    by_cases c0 : (x : Int) = 0
    · have f0 : ((x : Int) == 0) = true := beq_iff_eq.2 c0
      try simp (disch := first | omega | (simp only [L3] <;> omega)) only [Sall,evalOp,init,binA_s,binE,binI,unE,convE,okNil,builtE,gv,TD.isAgg,resV,↓reduceIte,Nat.reduceEqDiff,reduceCtorEq,Nat.reduceAdd,Nat.reduceMul,Nat.reduceLeDiff,za0,za1,Int.reduceEq,Int.reduceLT,Int.reduceLE,Nat.reduceLT,tiA,tiXA, f0]
      refine ACalls.ex4 (g := fun n _ u _ => .agg #[.int .i64 (n : Nat), u]) (l01Draw_c cv nb si H4 hnb (d3.src hsi) (d3.code hc hsc)) ?_
      rintro n2 k2 u2 l2 H5 ⟨hn2, hk2, hV2, e2⟩
      have d4 := d3.bind hsi e2
      have g2 := d4.rowAt 2 rfl
      have hu2 := d4.capOne 3 rfl
      refine Holds.mp ?_
      try simp (disch := first | omega | (simp only [L3] <;> omega)) only [Sall,evalOp,init,binA_s,binE,binI,unE,convE,okNil,builtE,gv,TD.isAgg,resV,↓reduceIte,Nat.reduceEqDiff,reduceCtorEq,Nat.reduceAdd,Nat.reduceMul,Nat.reduceLeDiff,za0,za1,Int.reduceEq,Int.reduceLT,Int.reduceLE,Nat.reduceLT,tiA,tiXA, g2, hu2]
      exact ⟨n2, k2, ri, u2, l2, rfl, hn2, hk2, hV2, (d4.putRow 2 rfl).map fun B o => Ow.four o⟩
    have f0 : ((x : Int) == 0) = false := beq_eq_false_iff_ne.2 c0
    by_cases c1 : (x : Int) = 1
    · have f1 : ((x : Int) == 1) = true := beq_iff_eq.2 c1
      have zz5 : zeros 5 [.int .i64 0] = [.int .i64 0, .int .i64 0, .int .i64 0, .int .i64 0, .int .i64 0] := rfl
      simp (config := {maxSteps := 3000000}) (disch := first | omega | (simp only [L3] <;> omega)) only [Sall,evalOp,init,binA_s,binE,binI,unE,convE,okNil,builtE,gv,TD.isAgg,resV,↓reduceIte,Nat.reduceEqDiff,reduceCtorEq,Nat.reduceAdd,Nat.reduceMul,Nat.reduceLeDiff,za0,za1,Int.reduceEq,Int.reduceLT,Int.reduceLE,Nat.reduceLT,tiA,tiXA, f0, f1, zz5]
      refine (pickL [4, 4, 5, 6, 6] 5 rfl (by omega) (by omega) d3 hsi hc hsc hnb).ex ?_
      rintro y H5 ⟨hy, d4⟩
      have hy2 : 2 ≤ y ∧ y ≤ 14 := by
        simp only [List.mem_cons, List.not_mem_nil, or_false] at hy
        omega
      obtain ⟨m, rfl⟩ : ∃ m : Nat, y = m := ⟨y.toNat, by omega⟩
      have hm : 2 ≤ m ∧ m ≤ 14 := by omega
      refine Holds.mp ?_
      try simp (disch := first | omega | (simp only [L3] <;> omega)) only [Sall,evalOp,init,binA_s,binE,binI,unE,convE,okNil,builtE,gv,TD.isAgg,resV,↓reduceIte,Nat.reduceEqDiff,reduceCtorEq,Nat.reduceAdd,Nat.reduceMul,Nat.reduceLeDiff,za0,za1,Int.reduceEq,Int.reduceLT,Int.reduceLE,Nat.reduceLT,tiA,tiXA, true_and]
      refine (ACalls.scz (circleS_c m hm H5)).ex ?_
      rintro u2 H6 ⟨⟨up6, fr6⟩, sc6⟩
      have o6 := Ow.of_fr up6 sc6 fr6
      have hu2 := o6.one 0 rfl
      have d5 := (d4.calls o6).toCap 3 rfl
      have g2 := d5.rowAt 2 rfl
      have hk : oddUp m ≤ 40 := by unfold oddUp; omega
      refine Holds.mp ?_
      try simp (disch := first | omega | (simp only [L3] <;> omega)) only [Sall,evalOp,init,binA_s,binE,binI,unE,convE,okNil,builtE,gv,TD.isAgg,resV,↓reduceIte,Nat.reduceEqDiff,reduceCtorEq,Nat.reduceAdd,Nat.reduceMul,Nat.reduceLeDiff,za0,za1,Int.reduceEq,Int.reduceLT,Int.reduceLE,Nat.reduceLT,tiA,tiXA, g2, hu2]
      exact ⟨m, oddUp m, ri, u2, zc7 m (oddUp m), rfl, hm, hk, circleVL hm, (d5.putRow 2 rfl).map fun B o => Ow.four o⟩
    have f1 : ((x : Int) == 1) = false := beq_eq_false_iff_ne.2 c1
    try simp (disch := first | omega | (simp only [L3] <;> omega)) only [Sall,evalOp,init,binA_s,binE,binI,unE,convE,okNil,builtE,gv,TD.isAgg,resV,↓reduceIte,Nat.reduceEqDiff,reduceCtorEq,Nat.reduceAdd,Nat.reduceMul,Nat.reduceLeDiff,za0,za1,Int.reduceEq,Int.reduceLT,Int.reduceLE,Nat.reduceLT,tiA,tiXA, f0, f1]
    exact ⟨n, k, ri, u, l, rfl, ⟨hn1, hn2⟩, by omega, hV, d3⟩
  · rintro t H1 ⟨n, k, ri, u, l, h0, h2, h4, hn, hk, hV, d1⟩
    have g2 := d1.rowAt 2 rfl
    have hu := d1.capOne 1 rfl
    have hlu := (d1.capRs 1 rfl).rd.len
    have nri : ¬ ri = si := by
      obtain ⟨B, b, o⟩ := d1.ex
      have := (o.rowAt 2 rfl).2.1
      have := b.next
      omega
    refine awp_cut1 (fun t H' => ∃ (n k ri : Nat) (u : Value) (l : List Int), t 0 = .pointer (some ⟨si, 0, none⟩) ∧ t 2 = .pointer (some ⟨H.next, 0, none⟩) ∧ t 4 = .pointer (some ⟨ri, 0, none⟩) ∧ (2 ≤ n ∧ n ≤ 14) ∧ k ≤ 40 ∧ VL n l ∧ Dq cv nb si H H' [.row H.next ⟨26, true, [.int .i64 0, .slice none 0 0]⟩, .cap 14 69 u k (ints l), .row ri ⟨26, true, [.int .i64 n, u]⟩]) ?_ ?_
    · by_cases c0 : 1 < k
      · have f0 : decide ((1 : Int) < (k : Int)) = true := decide_eq_true (by omega)
        try simp (disch := first | omega | (simp only [L3] <;> omega)) only [Sall,evalOp,init,binA_s,binE,binI,unE,convE,okNil,builtE,gv,TD.isAgg,resV,↓reduceIte,Nat.reduceEqDiff,reduceCtorEq,Nat.reduceAdd,Nat.reduceMul,Nat.reduceLeDiff,za0,za1,Int.reduceEq,Int.reduceLT,Int.reduceLE,Nat.reduceLT,tiA,tiXA, h0, h4, g2, hu, builtE, hlu, f0]
        refine (nextD 2 d1 hsi hc hsc hnb (by omega)).ex ?_
        rintro x H2 ⟨hx, d2⟩
        have g2 := d2.rowAt 2 rfl
        have hlu := (d2.capRs 1 rfl).rd.len
        refine Holds.mp ?_
        obtain ⟨bb, ebb⟩ : ∃ bb, ((x : Int) == 0) = bb := ⟨_, rfl⟩
        cases bb with
        | true =>
          try simp (disch := first | omega | (simp only [L3] <;> omega)) only [Sall,evalOp,init,binA_s,binE,binI,unE,convE,okNil,builtE,gv,TD.isAgg,resV,↓reduceIte,Nat.reduceEqDiff,reduceCtorEq,Nat.reduceAdd,Nat.reduceMul,Nat.reduceLeDiff,za0,za1,Int.reduceEq,Int.reduceLT,Int.reduceLE,Nat.reduceLT,tiA,tiXA, h0, h4, ebb]
          refine zc9 (fun j => j ≠ si) [0, 1, 2, 3, 4, 5, 6, 7, 8, 9, 10] (by kernel_rfl) (by kernel_rfl) (by kernel_rfl) ?_
          try simp (disch := first | omega | (simp only [L3] <;> omega)) only [Sall,evalOp,init,binA_s,binE,binI,unE,convE,okNil,builtE,gv,TD.isAgg,resV,↓reduceIte,Nat.reduceEqDiff,reduceCtorEq,Nat.reduceAdd,Nat.reduceMul,Nat.reduceLeDiff,za0,za1,Int.reduceEq,Int.reduceLT,Int.reduceLE,Nat.reduceLT,tiA,tiXA, zaM, zaG, za8, loadOk, h0, h4, g2, hu, nri, builtE, hlu, w64]
          refine (nextE k d2 hsi hc hsc hnb (by omega)).ex ?_
          rintro y H3 ⟨hy, les3, d3⟩
          have hyk : y + 1 ≤ k := by omega
          have ey : (1 : Int) + (y : Int) = ((y + 1 : Nat) : Int) := by omega
          obtain ⟨w, hw, d4⟩ := d3.cut 1 rfl (hi := some (((y + 1 : Nat) : Int))) (b := y + 1) rfl hyk
          have g2' := d4.rowAt 2 rfl
          have hw1 := d4.capOne 1 rfl
          refine ⟨.inr (.inr les3), ?_⟩
          try simp (disch := first | omega | (simp only [L3] <;> omega)) only [Sall,evalOp,init,binA_s,binE,binI,unE,convE,okNil,builtE,gv,TD.isAgg,resV,↓reduceIte,Nat.reduceEqDiff,reduceCtorEq,Nat.reduceAdd,Nat.reduceMul,Nat.reduceLeDiff,za0,za1,Int.reduceEq,Int.reduceLT,Int.reduceLE,Nat.reduceLT,tiA,tiXA, zaM, zaG, za8, loadOk, nri, w64, ey]
          refine hw _ _ _ _ rfl ?_
          try simp (disch := first | omega | (simp only [L3] <;> omega)) only [Sall,evalOp,init,binA_s,binE,binI,unE,convE,okNil,builtE,gv,TD.isAgg,resV,↓reduceIte,Nat.reduceEqDiff,reduceCtorEq,Nat.reduceAdd,Nat.reduceMul,Nat.reduceLeDiff,za0,za1,Int.reduceEq,Int.reduceLT,Int.reduceLE,Nat.reduceLT,tiA,tiXA, zaM, zaG, za8, loadOk, h4, g2', hw1, nri]
          refine ⟨.inr (.inl (by kernel_rfl)), n, y + 1, ri, w, l.take ((y + 1) * 14), ?_⟩
          try simp (disch := first | omega | (simp only [L3] <;> omega)) only [Sall,evalOp,init,binA_s,binE,binI,unE,convE,okNil,builtE,gv,TD.isAgg,resV,↓reduceIte,Nat.reduceEqDiff,reduceCtorEq,Nat.reduceAdd,Nat.reduceMul,Nat.reduceLeDiff,za0,za1,Int.reduceEq,Int.reduceLT,Int.reduceLE,Nat.reduceLT,tiA,tiXA, h0, h2, h4]
          exact ⟨hn, by omega, hV.take _, d4.putRow 2 rfl⟩
        | false =>
          try simp (disch := first | omega | (simp only [L3] <;> omega)) only [Sall,evalOp,init,binA_s,binE,binI,unE,convE,okNil,builtE,gv,TD.isAgg,resV,↓reduceIte,Nat.reduceEqDiff,reduceCtorEq,Nat.reduceAdd,Nat.reduceMul,Nat.reduceLeDiff,za0,za1,Int.reduceEq,Int.reduceLT,Int.reduceLE,Nat.reduceLT,tiA,tiXA, h0, h4, ebb]
          refine ⟨n, k, ri, u, l, ?_⟩
          try simp (disch := first | omega | (simp only [L3] <;> omega)) only [Sall,evalOp,init,binA_s,binE,binI,unE,convE,okNil,builtE,gv,TD.isAgg,resV,↓reduceIte,Nat.reduceEqDiff,reduceCtorEq,Nat.reduceAdd,Nat.reduceMul,Nat.reduceLeDiff,za0,za1,Int.reduceEq,Int.reduceLT,Int.reduceLE,Nat.reduceLT,tiA,tiXA, h0, h2, h4]
          exact ⟨hn, hk, hV, d2⟩
      · have f0 : decide ((1 : Int) < (k : Int)) = false := decide_eq_false (by omega)
        try simp (disch := first | omega | (simp only [L3] <;> omega)) only [Sall,evalOp,init,binA_s,binE,binI,unE,convE,okNil,builtE,gv,TD.isAgg,resV,↓reduceIte,Nat.reduceEqDiff,reduceCtorEq,Nat.reduceAdd,Nat.reduceMul,Nat.reduceLeDiff,za0,za1,Int.reduceEq,Int.reduceLT,Int.reduceLE,Nat.reduceLT,tiA,tiXA, h0, h4, g2, hu, builtE, hlu, f0]
        refine ⟨n, k, ri, u, l, ?_⟩
        try simp (disch := first | omega | (simp only [L3] <;> omega)) only [Sall,evalOp,init,binA_s,binE,binI,unE,convE,okNil,builtE,gv,TD.isAgg,resV,↓reduceIte,Nat.reduceEqDiff,reduceCtorEq,Nat.reduceAdd,Nat.reduceMul,Nat.reduceLeDiff,za0,za1,Int.reduceEq,Int.reduceLT,Int.reduceLE,Nat.reduceLT,tiA,tiXA, h0, h2, h4]
        exact ⟨hn, hk, hV, d1⟩
    clear d1 g2 hu hlu nri hV hk hn h0 h2 h4
    rintro t H1 ⟨n, k, ri, u, l, h0, h2, h4, hn, hk, hV, d1⟩
    have g2 := d1.rowAt 2 rfl
    have hu := d1.capOne 1 rfl
    have hlu := (d1.capRs 1 rfl).rd.len
    have nri : ¬ ri = si := by
      obtain ⟨B, b, o⟩ := d1.ex
      have := (o.rowAt 2 rfl).2.1
      have := b.next
      omega
    try simp (disch := first | omega | (simp only [L3] <;> omega)) only [Sall,evalOp,init,binA_s,binE,binI,unE,convE,okNil,builtE,gv,TD.isAgg,resV,↓reduceIte,Nat.reduceEqDiff,reduceCtorEq,Nat.reduceAdd,Nat.reduceMul,Nat.reduceLeDiff,za0,za1,Int.reduceEq,Int.reduceLT,Int.reduceLE,Nat.reduceLT,tiA,tiXA, h0, h4, g2, hu, builtE, hlu, w64]
    refine (nextD ((k : Int) + 1) d1 hsi hc hsc hnb (by omega)).ex ?_
    rintro pl H2 ⟨hpl, d2⟩
    have hpk : pl ≤ k := by omega
    refine Holds.mp ?_
    try simp (disch := first | omega | (simp only [L3] <;> omega)) only [Sall,evalOp,init,binA_s,binE,binI,unE,convE,okNil,builtE,gv,TD.isAgg,resV,↓reduceIte,Nat.reduceEqDiff,reduceCtorEq,Nat.reduceAdd,Nat.reduceMul,Nat.reduceLeDiff,za0,za1,Int.reduceEq,Int.reduceLT,Int.reduceLE,Nat.reduceLT,tiA,tiXA, zaN]
    have d3 := d2.map fun B o => o.pushSl2 (Value.int .i64) 33 2
    obtain ⟨w0, hw0⟩ : ∃ w0, w0 = Value.slice (some ⟨H2.next, 0, some 1⟩) 0 0 := ⟨_, rfl⟩
    rw [← hw0] at d3 ⊢
    generalize H2.push ⟨33, true, []⟩ = H3 at d3 ⊢
    refine za7 (fun z t H' => ∃ (i : Nat) (w : Value) (ll : List (List Int)), z = pl - i ∧ i ≤ pl ∧ t 7 = .int .i64 i ∧ t 6 = w ∧ t 5 = .int .i64 pl ∧ t 4 = .pointer (some ⟨ri, 0, none⟩) ∧ t 2 = .pointer (some ⟨H.next, 0, none⟩) ∧ t 0 = .pointer (some ⟨si, 0, none⟩) ∧ ll.length = i ∧ (∀ j, j < ll.length → (ll.getD j []).length ≤ 14 ∧ ∀ x, x ∈ ll.getD j [] → 0 ≤ x ∧ x ≤ 2) ∧
      Dq cv nb si H H' [.row H.next ⟨26, true, [.int .i64 0, .slice none 0 0]⟩, .cap 14 69 u k (ints l), .row ri ⟨26, true, [.int .i64 n, u]⟩, .sl2 (Value.int .i64) 33 2 w ll]) pl ?_ ?_
    · refine ⟨0, w0, [], by omega, by omega, ?_⟩
      try simp (disch := first | omega | (simp only [L3] <;> omega)) only [Sall,evalOp,init,binA_s,binE,binI,unE,convE,okNil,builtE,gv,TD.isAgg,resV,↓reduceIte,Nat.reduceEqDiff,reduceCtorEq,Nat.reduceAdd,Nat.reduceMul,Nat.reduceLeDiff,za0,za1,Int.reduceEq,Int.reduceLT,Int.reduceLE,Nat.reduceLT,tiA,tiXA, Int.natCast_zero, h0, h2, h4]
      first | exact d3 | exact ⟨fun j hj => by simp at hj, d3⟩
    · rintro z t H' ⟨i, w, ll, hz, hi, h7, h6, h5, h4, h2, h0, hll, hl2, d4⟩
      try simp (disch := first | omega | (simp only [L3] <;> omega)) only [Sall,evalOp,init,binA_s,binE,binI,unE,convE,okNil,builtE,gv,TD.isAgg,resV,↓reduceIte,Nat.reduceEqDiff,reduceCtorEq,Nat.reduceAdd,Nat.reduceMul,Nat.reduceLeDiff,za0,za1,Int.reduceEq,Int.reduceLT,Int.reduceLE,Nat.reduceLT,tiA,tiXA, h7, h5]
      refine za6 (fun hh => ?_) (fun hh => ?_)
      · try simp (disch := first | omega | (simp only [L3] <;> omega)) only [Sall,evalOp,init,binA_s,binE,binI,unE,convE,okNil,builtE,gv,TD.isAgg,resV,↓reduceIte,Nat.reduceEqDiff,reduceCtorEq,Nat.reduceAdd,Nat.reduceMul,Nat.reduceLeDiff,za0,za1,Int.reduceEq,Int.reduceLT,Int.reduceLE,Nat.reduceLT,tiA,tiXA, zaN]
        have d5 := d4.map fun B o => o.pushSl (k := 1) (n := 0) (ty := 2) (vs := ints []) rfl
        obtain ⟨r0, hr0⟩ : ∃ r0, r0 = Value.slice (some ⟨H'.next, 0, some 1⟩) 0 0 := ⟨_, rfl⟩
        rw [← hr0] at d5 ⊢
        have d5 : Dq cv nb si H (H'.push ⟨2, true, []⟩) [.row H.next ⟨26, true, [.int .i64 0, .slice none 0 0]⟩, .cap 14 69 u k (ints l), .row ri ⟨26, true, [.int .i64 n, u]⟩, .sl2 (Value.int .i64) 33 2 w ll, .sl 1 2 r0 0 (ints [])] := d5
        generalize H'.push ⟨2, true, []⟩ = H4 at d5 ⊢
        have q2 := d5.rowAt 2 rfl
        have hl0 := (d5.capRs 1 rfl).rd.1
        obtain ⟨ai, ao, au, ac, ar, ea, har, hle, _, hsg⟩ := (d5.capRs 1 rfl).rd.get (by omega)
        have hs1 : seg ar.cells (ao + i * 14) 14 = ints (rnd l i) := hsg (i * 14) 14 (by omega)
        have hr1 : (rnd l i).length = 14 := zbA l i k hl0 (by omega)
        refine zaR (by kernel_rfl) (by kernel_rfl) ?_
        try simp (disch := first | omega | (simp only [L3] <;> omega)) only [Sall,evalOp,init,binA_s,binE,binI,unE,convE,okNil,builtE,gv,TD.isAgg,resV,↓reduceIte,Nat.reduceEqDiff,reduceCtorEq,Nat.reduceAdd,Nat.reduceMul,Nat.reduceLeDiff,za0,za1,Int.reduceEq,Int.reduceLT,Int.reduceLE,Nat.reduceLT,tiA,tiXA, h7, h4, q2, hu, ea, har, hs1, hr1]
        (repeat refine And.intro (by omega) ?_)
        refine (zcP n (rnd l i) hr1 hn.2 H4).sc.mono ?_
        rintro pv H5 ⟨⟨up5, fr5⟩, sc5⟩
        have hpl2 := fr5.rd.len
        have hpn := zbE (rnd l i) n
        generalize (pairsL (rnd l i) n).length = pn at hpl2 hpn
        have d6 : Dq cv nb si H H5 [.row H.next ⟨26, true, [.int .i64 0, .slice none 0 0]⟩, .cap 14 69 u k (ints l), .row ri ⟨26, true, [.int .i64 n, u]⟩, .sl2 (Value.int .i64) 33 2 w ll, .sl 1 2 r0 0 (ints [])] := d5.calls (Ow.of_up up5 sc5)
        refine ⟨.inr (.inr (up5.le d5.sc)), ?_⟩
        try simp (disch := first | omega | (simp only [L3] <;> omega)) only [Sall,evalOp,init,binA_s,binE,binI,unE,convE,okNil,builtE,gv,TD.isAgg,resV,↓reduceIte,Nat.reduceEqDiff,reduceCtorEq,Nat.reduceAdd,Nat.reduceMul,Nat.reduceLeDiff,za0,za1,Int.reduceEq,Int.reduceLT,Int.reduceLE,Nat.reduceLT,tiA,tiXA, hpl2, builtE]
        refine za7 (fun z t H' => ∃ (c : Nat) (r : Value) (lq : List Int), z = c ∧ c + lq.length ≤ 14 ∧ t 9 = .int .i64 c ∧ t 8 = r ∧ t 7 = .int .i64 i ∧ t 6 = w ∧ t 5 = .int .i64 pl ∧ t 4 = .pointer (some ⟨ri, 0, none⟩) ∧ t 2 = .pointer (some ⟨H.next, 0, none⟩) ∧ t 0 = .pointer (some ⟨si, 0, none⟩) ∧ (∀ x, x ∈ lq → 0 ≤ x ∧ x ≤ 2) ∧
          Dq cv nb si H H' [.row H.next ⟨26, true, [.int .i64 0, .slice none 0 0]⟩, .cap 14 69 u k (ints l), .row ri ⟨26, true, [.int .i64 n, u]⟩, .sl2 (Value.int .i64) 33 2 w ll, .sl 1 2 r lq.length (ints lq)]) pn ?_ ?_
        · refine ⟨pn, r0, [], rfl, by simp; omega, ?_⟩
          try simp (disch := first | omega | (simp only [L3] <;> omega)) only [Sall,evalOp,init,binA_s,binE,binI,unE,convE,okNil,builtE,gv,TD.isAgg,resV,↓reduceIte,Nat.reduceEqDiff,reduceCtorEq,Nat.reduceAdd,Nat.reduceMul,Nat.reduceLeDiff,za0,za1,Int.reduceEq,Int.reduceLT,Int.reduceLE,Nat.reduceLT,tiA,tiXA, h7, h6, h5, h4, h2, h0]
          exact ⟨fun x hx => by simp at hx, d6⟩
        · rintro z2 t H6 ⟨c, r, lq, hz2, hcl, h9, h8, h7, h6, h5, h4, h2, h0, hlq, d7⟩
          have hr1 := d7.one 4 rfl
          have zz4 : zeros 4 [.int .i64 0] = [.int .i64 0, .int .i64 0, .int .i64 0, .int .i64 0] := rfl
          have zz1 : zeros 1 [.int .i64 0] = [.int .i64 0] := rfl
          have zs1 : zeros 1 [.slice none 0 0] = [.slice none 0 0] := rfl
          try simp (disch := first | omega | (simp only [L3] <;> omega)) only [Sall,evalOp,init,binA_s,binE,binI,unE,convE,okNil,builtE,gv,TD.isAgg,resV,↓reduceIte,Nat.reduceEqDiff,reduceCtorEq,Nat.reduceAdd,Nat.reduceMul,Nat.reduceLeDiff,za0,za1,Int.reduceEq,Int.reduceLT,Int.reduceLE,Nat.reduceLT,tiA,tiXA, h9]
          refine za6 (fun hh => ?_) (fun hh => ?_)
          · simp (config := {maxSteps := 3000000}) (disch := first | omega | (simp only [L3] <;> omega)) only [Sall,evalOp,init,binA_s,binE,binI,unE,convE,okNil,builtE,gv,TD.isAgg,resV,↓reduceIte,Nat.reduceEqDiff,reduceCtorEq,Nat.reduceAdd,Nat.reduceMul,Nat.reduceLeDiff,za0,za1,Int.reduceEq,Int.reduceLT,Int.reduceLE,Nat.reduceLT,tiA,tiXA, h8, h0, zz4]
            refine (pickL [0, 1, 1, 2] 4 rfl (by omega) (by omega) d7 hsi hc hsc hnb).ex ?_
            rintro x H7 ⟨hx, d8⟩
            have hx2 : 0 ≤ x ∧ x ≤ 2 := by
              simp only [List.mem_cons, List.not_mem_nil, or_false] at hx
              omega
            refine Holds.mp ?_
            try simp (disch := first | omega | (simp only [L3] <;> omega)) only [Sall,evalOp,init,binA_s,binE,binI,unE,convE,okNil,builtE,gv,TD.isAgg,resV,↓reduceIte,Nat.reduceEqDiff,reduceCtorEq,Nat.reduceAdd,Nat.reduceMul,Nat.reduceLeDiff,za0,za1,Int.reduceEq,Int.reduceLT,Int.reduceLE,Nat.reduceLT,tiA,tiXA, zz1, zaO]
            (repeat refine And.intro (by omega) ?_)
            obtain ⟨B8, b8, o8⟩ := id d8.ex
            refine (o8.tmp ⟨2, true, [.int .i64 x]⟩).app 4 (c := 1) (ms := ints [x]) rfl rfl (by omega) rfl (by omega) (by decide) (by omega) ?_
            intro v' Hb nb2 ob
            rw [zaU] at ob
            try simp (disch := first | omega | (simp only [L3] <;> omega)) only [Sall,evalOp,init,binA_s,binE,binI,unE,convE,okNil,builtE,gv,TD.isAgg,resV,↓reduceIte,Nat.reduceEqDiff,reduceCtorEq,Nat.reduceAdd,Nat.reduceMul,Nat.reduceLeDiff,za0,za1,Int.reduceEq,Int.reduceLT,Int.reduceLE,Nat.reduceLT,tiA,tiXA, h9, h7, h6, h5, h4, h2, h0, w64]
            exact ⟨c - 1, by omega, c - 1, v', lq ++ [x], rfl, by simp; omega, by omega, rfl, fun y hy => by
              rcases List.mem_append.1 hy with h | h
              · exact hlq y h
              · simp at h; rw [h]; exact hx2, ⟨⟨B8, b8, by rw [List.length_append]; exact ob⟩⟩⟩
          · have hq1 := zbK hr1
            have hq2 := zbB hr1
            have hq3 := fun rr => ok_one (r := rr) hr1
            obtain ⟨B8, b8, o8⟩ := id d7.ex
            try simp (disch := first | omega | (simp only [L3] <;> omega)) only [Sall,evalOp,init,binA_s,binE,binI,unE,convE,okNil,builtE,gv,TD.isAgg,resV,↓reduceIte,Nat.reduceEqDiff,reduceCtorEq,Nat.reduceAdd,Nat.reduceMul,Nat.reduceLeDiff,za0,za1,Int.reduceEq,Int.reduceLT,Int.reduceLE,Nat.reduceLT,tiA,tiXA, h8, h6, hr1, hq1, hq2, hq3, zs1, zaO]
            (repeat refine And.intro (by omega) ?_)
            refine (o8.tmp ⟨33, true, [r]⟩).app2 (l := lq) 3 4 rfl rfl (by omega) rfl (by decide) (by omega) ?_
            intro v' Hb nb2 ob
            have ob2 : Ow B8 Hb ([.row H.next ⟨26, true, [.int .i64 0, .slice none 0 0]⟩, .cap 14 69 u k (ints l), .row ri ⟨26, true, [.int .i64 n, u]⟩, .sl2 (Value.int .i64) 33 2 v' (ll ++ [lq])] ++ [.no]) := ob
            try simp (disch := first | omega | (simp only [L3] <;> omega)) only [Sall,evalOp,init,binA_s,binE,binI,unE,convE,okNil,builtE,gv,TD.isAgg,resV,↓reduceIte,Nat.reduceEqDiff,reduceCtorEq,Nat.reduceAdd,Nat.reduceMul,Nat.reduceLeDiff,za0,za1,Int.reduceEq,Int.reduceLT,Int.reduceLE,Nat.reduceLT,tiA,tiXA, h7, h5, h4, h2, h0, w64]
            exact ⟨pl - (i + 1), by omega, i + 1, v', ll ++ [lq], rfl, by omega, by omega, rfl, by simp [hll], fun j hj => by
              by_cases hj2 : j < ll.length
              · rw [List.getD_eq_getElem?_getD, List.getElem?_append_left hj2, ← List.getD_eq_getElem?_getD]; exact hl2 j hj2
              · obtain rfl : j = ll.length := by simp at hj; omega
                have e : (ll ++ [lq]).getD ll.length [] = lq := by simp [List.getD_eq_getElem?_getD]
                rw [e]
                exact ⟨by omega, hlq⟩, ⟨⟨B8, b8, ob2.left⟩⟩⟩
      · have q0 := d4.rowAt 0 rfl
        have q2 := d4.rowAt 2 rfl
        have hw1 := (d4.rd2 3 rfl).one
        try simp (disch := first | omega | (simp only [L3] <;> omega)) only [Sall,evalOp,init,binA_s,binE,binI,unE,convE,okNil,builtE,gv,TD.isAgg,resV,↓reduceIte,Nat.reduceEqDiff,reduceCtorEq,Nat.reduceAdd,Nat.reduceMul,Nat.reduceLeDiff,za0,za1,Int.reduceEq,Int.reduceLT,Int.reduceLE,Nat.reduceLT,tiA,tiXA, h4, h6, h2, q0, q2, hu, hw1]
        have d5 := d4.putRow 0 rfl (cs' := [.int .i64 n, u])
        have hlk : ll.length ≤ k := by omega
        exact ⟨n, k, (u, w), (l, ll), rfl, hn, hk, hV, hlk, hl2, d5.map fun B o => o.sub (fun j => ([1, 3] : List Nat).getD j 9) (fun j hj => by
          have hj : j < 2 := hj
          rcases j with _ | _ | j <;> first | rfl | omega) (fun x y hx hy h => by
          have hh : ∀ x, x < 2 → ∀ y, y < 2 → ([1, 3] : List Nat).getD x 9 = ([1, 3] : List Nat).getD y 9 → x = y := by decide
          exact hh x hx y hy h)⟩
end Go.Proofs.YtpienljnoaendaaGreat.A
end
