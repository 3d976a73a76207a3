/- Contracts: PointsBetween on both sides. -/
import Derived.Test.YthabnjaapickiaaC11
import Derived.Test.YthabnjaapickiaaPl5
set_option linter.unusedSimpArgs false
set_option linter.unusedVariables false
set_option maxRecDepth 100000
set_option maxHeartbeats 2000000
--LEN ints_length, List.length_replicate, List.length_set
namespace Go.Proofs.Ythabnjaapickiaa.A
open Go Go.Abs Go.RowKit

theorem hasTeam_c (q : Int) (v : Value) (a : Int) (H : AH) (hq : 2 ≤ q ∧ q ≤ 14) (hone : v.oneCell' = true) : ACalls Try.prog 96 [.agg #[.int .i64 q, v], .int .i64 a] H (is (.bool (decide (0 ≤ a ∧ a ≤ q - 1))) H) := by
  refine acalls_up rfl (acalls_of_awp [.tmp 4] Try.func96 (by kernel_rfl) rfl rfl (Nat.le_of_ble_eq_true rfl) (by kernel_rfl) ?_)
  have up : Up H.next H (H.push ⟨30, true, [.int .i64 q, v]⟩) := (Up.refl _ H).push (Nat.le_refl _) _
  try simp (disch := first | omega | (simp only [ints_length, List.length_replicate, List.length_set]; done) | (simp only [ints_length, List.length_replicate, List.length_set]; omega)) only [Sall,evalOp,init,binE,binI,unE,convE,okNil,builtE,gv,TD.isAgg,resV,↓reduceIte,Nat.reduceEqDiff,reduceCtorEq,Nat.reduceAdd,Nat.reduceMul,Nat.reduceLeDiff,quietOp,blindOp,Int.reduceEq,Int.reduceLT,Int.reduceLE,Nat.reduceLT,ti2,ti3,ti4,ti94,ti95,ti22,ti46,ti28,ti37,ti30,ti39,ti36,ti114,ti32,ti41, hone, w64]
  refine (between_c _ _ _ _).to ?_
  try simp (disch := first | omega | (simp only [ints_length, List.length_replicate, List.length_set]; done) | (simp only [ints_length, List.length_replicate, List.length_set]; omega)) only [Sall,evalOp,init,binE,binI,unE,convE,okNil,builtE,gv,TD.isAgg,resV,↓reduceIte,Nat.reduceEqDiff,reduceCtorEq,Nat.reduceAdd,Nat.reduceMul,Nat.reduceLeDiff,quietOp,blindOp,Int.reduceEq,Int.reduceLT,Int.reduceLE,Nat.reduceLT,ti2,ti3,ti4,ti94,ti95,ti22,ti46,ti28,ti37,ti30,ti39,ti36,ti114,ti32,ti41, true_and]
  exact up

theorem ptsBetween1_c (q : Int) (v : Value) (a b : Int) (p0 p1 p2 : Nat) (H : AH) (hq : 2 ≤ q ∧ q ≤ 14) (hone : v.oneCell' = true) (h0 : H.row p0 = some ⟨30, true, [.int .i64 q, v]⟩) (h1 : H.row p1 = some ⟨2, true, [.int .i64 a]⟩) (h2 : H.row p2 = some ⟨2, true, [.int .i64 b]⟩) :
    ACalls Try.prog 95 [.pointer (some ⟨p0, 0, none⟩), .pointer (some ⟨p1, 0, none⟩), .pointer (some ⟨p2, 0, none⟩)] H (is (.bool (decide (0 ≤ a ∧ a ≤ q - 1) && decide (0 ≤ b ∧ b ≤ q - 1) && a != b)) H) := by
  refine acalls_of_awp [.tmp 3] Try.func95 (by kernel_rfl) rfl rfl (Nat.le_of_ble_eq_true rfl) (by kernel_rfl) ?_
  try simp (disch := first | omega | (simp only [ints_length, List.length_replicate, List.length_set]; done) | (simp only [ints_length, List.length_replicate, List.length_set]; omega)) only [Sall,evalOp,init,binE,binI,unE,convE,okNil,builtE,gv,TD.isAgg,resV,↓reduceIte,Nat.reduceEqDiff,reduceCtorEq,Nat.reduceAdd,Nat.reduceMul,Nat.reduceLeDiff,quietOp,blindOp,Int.reduceEq,Int.reduceLT,Int.reduceLE,Nat.reduceLT,ti2,ti3,ti4,ti94,ti95,ti22,ti46,ti28,ti37,ti30,ti39,ti36,ti114,ti32,ti41, h0, h1, hone]
  refine (hasTeam_c q v a H hq hone).to ?_
  by_cases ha : 0 ≤ a ∧ a ≤ q - 1
  · try simp (disch := first | omega | (simp only [ints_length, List.length_replicate, List.length_set]; done) | (simp only [ints_length, List.length_replicate, List.length_set]; omega)) only [Sall,evalOp,init,binE,binI,unE,convE,okNil,builtE,gv,TD.isAgg,resV,↓reduceIte,Nat.reduceEqDiff,reduceCtorEq,Nat.reduceAdd,Nat.reduceMul,Nat.reduceLeDiff,quietOp,blindOp,Int.reduceEq,Int.reduceLT,Int.reduceLE,Nat.reduceLT,ti2,ti3,ti4,ti94,ti95,ti22,ti46,ti28,ti37,ti30,ti39,ti36,ti114,ti32,ti41, ha, decide_true, h0, h1, h2, hone]
    refine (hasTeam_c q v b H hq hone).to ?_
    by_cases hb : 0 ≤ b ∧ b ≤ q - 1
    · try simp (disch := first | omega | (simp only [ints_length, List.length_replicate, List.length_set]; done) | (simp only [ints_length, List.length_replicate, List.length_set]; omega)) only [Sall,evalOp,init,binE,binI,unE,convE,okNil,builtE,gv,TD.isAgg,resV,↓reduceIte,Nat.reduceEqDiff,reduceCtorEq,Nat.reduceAdd,Nat.reduceMul,Nat.reduceLeDiff,quietOp,blindOp,Int.reduceEq,Int.reduceLT,Int.reduceLE,Nat.reduceLT,ti2,ti3,ti4,ti94,ti95,ti22,ti46,ti28,ti37,ti30,ti39,ti36,ti114,ti32,ti41, hb, decide_true, h0, h1, h2, is]
      rw [decide_eq_true ha]; rfl
    · try simp (disch := first | omega | (simp only [ints_length, List.length_replicate, List.length_set]; done) | (simp only [ints_length, List.length_replicate, List.length_set]; omega)) only [Sall,evalOp,init,binE,binI,unE,convE,okNil,builtE,gv,TD.isAgg,resV,↓reduceIte,Nat.reduceEqDiff,reduceCtorEq,Nat.reduceAdd,Nat.reduceMul,Nat.reduceLeDiff,quietOp,blindOp,Int.reduceEq,Int.reduceLT,Int.reduceLE,Nat.reduceLT,ti2,ti3,ti4,ti94,ti95,ti22,ti46,ti28,ti37,ti30,ti39,ti36,ti114,ti32,ti41, hb, decide_false, h0, h1, h2, is]
      rw [decide_eq_true ha]; rfl
  · try simp (disch := first | omega | (simp only [ints_length, List.length_replicate, List.length_set]; done) | (simp only [ints_length, List.length_replicate, List.length_set]; omega)) only [Sall,evalOp,init,binE,binI,unE,convE,okNil,builtE,gv,TD.isAgg,resV,↓reduceIte,Nat.reduceEqDiff,reduceCtorEq,Nat.reduceAdd,Nat.reduceMul,Nat.reduceLeDiff,quietOp,blindOp,Int.reduceEq,Int.reduceLT,Int.reduceLE,Nat.reduceLT,ti2,ti3,ti4,ti94,ti95,ti22,ti46,ti28,ti37,ti30,ti39,ti36,ti114,ti32,ti41, ha, decide_false, h0, h1, h2, is, Bool.false_and]

theorem ptsBetween2_c (rd : Nat) (c d o a b s1 s2 : Int) (p0 p1 p2 p3 : Nat) (H : AH) (h0 : H.row p0 = some ⟨2, true, [.int .i64 a]⟩) (h1 : H.row p1 = some ⟨2, true, [.int .i64 b]⟩) (h2 : H.row p2 = some ⟨2, true, [.int .i64 s1]⟩) (h3 : H.row p3 = some ⟨2, true, [.int .i64 s2]⟩) :
    ACalls Try.prog 98 [.int .i64 rd, .int .i64 c, .int .i64 d, .int .i64 o, .pointer (some ⟨p0, 0, none⟩), .pointer (some ⟨p1, 0, none⟩), .pointer (some ⟨p2, 0, none⟩), .pointer (some ⟨p3, 0, none⟩)] H
      (fun _ H' => H' = if c = a ∧ d = b then H.setCells p2 [.int .i64 (IntKind.i64.wrap (s1 + o))] else if c = b ∧ d = a then H.setCells p3 [.int .i64 (IntKind.i64.wrap (s2 + o))] else H) := by
  refine acalls_of_awp [] Try.func98 (by kernel_rfl) rfl rfl (Nat.le_of_ble_eq_true rfl) (by kernel_rfl) ?_
  refine Holds.mp ?_
  have B : ∀ x y : Int, ((x == y) = true ∧ x = y) ∨ ((x == y) = false ∧ ¬ x = y) := fun x y => by
    by_cases h : x = y
    · exact .inl ⟨by simpa using h, h⟩
    · exact .inr ⟨by simpa using h, h⟩
  rcases B c a with ⟨e1, f1⟩ | ⟨e1, f1⟩ <;> rcases B d b with ⟨e2, f2⟩ | ⟨e2, f2⟩ <;> rcases B c b with ⟨e3, f3⟩ | ⟨e3, f3⟩ <;> rcases B d a with ⟨e4, f4⟩ | ⟨e4, f4⟩ <;> rw [holds_def]
  all_goals
    try simp (disch := first | omega | (simp only [ints_length, List.length_replicate, List.length_set]; done) | (simp only [ints_length, List.length_replicate, List.length_set]; omega)) only [Sall,evalOp,init,binE,binI,unE,convE,okNil,builtE,gv,TD.isAgg,resV,↓reduceIte,Nat.reduceEqDiff,reduceCtorEq,Nat.reduceAdd,Nat.reduceMul,Nat.reduceLeDiff,quietOp,blindOp,Int.reduceEq,Int.reduceLT,Int.reduceLE,Nat.reduceLT,ti2,ti3,ti4,ti94,ti95,ti22,ti46,ti28,ti37,ti30,ti39,ti36,ti114,ti32,ti41, h0, h1, h2, h3, e1, e2, e3, e4]
    first | (rw [if_pos ⟨f1, f2⟩]; done) | (rw [if_neg (fun h => f1 h.1), if_pos ⟨f3, f4⟩]; done) | (rw [if_neg (fun h => f2 h.2), if_pos ⟨f3, f4⟩]; done) | (rw [if_neg (fun h => f1 h.1), if_neg (fun h => f3 h.1)]; done) | (rw [if_neg (fun h => f1 h.1), if_neg (fun h => f4 h.2)]; done) | (rw [if_neg (fun h => f2 h.2), if_neg (fun h => f3 h.1)]; done) | (rw [if_neg (fun h => f2 h.2), if_neg (fun h => f4 h.2)]; done)

/-- Are there two different teams of these numbers? -/
def twoB (q a b : Int) : Bool := decide (0 ≤ a ∧ a ≤ q - 1) && decide (0 ≤ b ∧ b ≤ q - 1) && a != b
def btwR (q : Int) (k : Nat) (l : List Int) (ll : List (List Int)) (a b : Int) : Int × Int := if schedB q k l = true ∧ (resB q.toNat k l ll && twoB q a b) = true then btw a b (meets q.toNat l ll ll.length) else (0, 0)

theorem PointsBetween_c (q : Int) (v : Value) (k : Nat) (l : List Int) (x : Value) (ll : List (List Int)) (a b : Int) (H : AH) (hv : Rd 14 H v k l) (hk : k ≤ 4294967296) (hx : Rd2 1 H x ll) (hl : ll.length ≤ 4294967296) (hl2 : ∀ y ∈ ll, y.length ≤ 4294967296)
    (_ : -9223372036854775808 ≤ a ∧ a ≤ 9223372036854775807) (_ : -9223372036854775808 ≤ b ∧ b ≤ 9223372036854775807) :
    ACalls Try.prog 49 [.agg #[.int .i64 q, v], x, .int .i64 a, .int .i64 b] H (is (.tuple #[.int .i64 (btwR q k l ll a b).1, .int .i64 (btwR q k l ll a b).2, .int .i64 (codeS q k l (resB q.toNat k l ll && twoB q a b))]) H) := by
  refine ACalls.wf (by kernel_rfl) fun hs => acalls_up (by simp [flat, Abs.scal]) (acalls_of_awp [.tmp 8, .tmp 9, .tmp 10] Try.func49 (by kernel_rfl) rfl rfl (Nat.le_of_ble_eq_true rfl) (by kernel_rfl) ?_)
  have hone := hv.one
  try simp (disch := first | omega | (simp only [ints_length, List.length_replicate, List.length_set]; done) | (simp only [ints_length, List.length_replicate, List.length_set]; omega)) only [Sall,evalOp,init,binE,binI,unE,convE,okNil,builtE,gv,TD.isAgg,resV,↓reduceIte,Nat.reduceEqDiff,reduceCtorEq,Nat.reduceAdd,Nat.reduceMul,Nat.reduceLeDiff,quietOp,blindOp,Int.reduceEq,Int.reduceLT,Int.reduceLE,Nat.reduceLT,ti2,ti3,ti4,ti94,ti95,ti22,ti46,ti28,ti37,ti30,ti39,ti36,ti114,ti32,ti41, hone]
  obtain ⟨H1, eg⟩ : ∃ H1, H1 = ((H.push ⟨30, true, [.int .i64 q, v]⟩).push ⟨2, true, [.int .i64 a]⟩).push ⟨2, true, [.int .i64 b]⟩ := ⟨_, rfl⟩
  have up : Up H.next H H1 := by rw [eg]; exact (((Up.refl _ H).push (by omega) _).push (by simp only [AH.push_next]; omega) _).push (by simp only [AH.push_next]; omega) _
  have g0 : H1.row H.next = some ⟨30, true, [.int .i64 q, v]⟩ := by rw [eg]; (simp [AH.setCells_row, AH.push_row, AH.push_next] <;> (try omega) <;> (repeat rw [if_neg (by omega)]))
  have g1 : H1.row (H.next + 1) = some ⟨2, true, [.int .i64 a]⟩ := by rw [eg]; (simp [AH.setCells_row, AH.push_row, AH.push_next] <;> (try omega) <;> (repeat rw [if_neg (by omega)]))
  have g2 : H1.row (H.next + 2) = some ⟨2, true, [.int .i64 b]⟩ := by rw [eg]; (simp [AH.setCells_row, AH.push_row, AH.push_next] <;> (try omega) <;> (repeat rw [if_neg (by omega)]))
  have n1 : H1.next = H.next + 3 := by rw [eg]; rfl
  rw [← eg]
  clear eg
  have hv1 := hv.same (up.le hs).row
  have hx1 := hx.same (up.le hs).row
  try simp (disch := first | omega | (simp only [ints_length, List.length_replicate, List.length_set]; done) | (simp only [ints_length, List.length_replicate, List.length_set]; omega)) only [Sall,evalOp,init,binE,binI,unE,convE,okNil,builtE,gv,TD.isAgg,resV,↓reduceIte,Nat.reduceEqDiff,reduceCtorEq,Nat.reduceAdd,Nat.reduceMul,Nat.reduceLeDiff,quietOp,blindOp,Int.reduceEq,Int.reduceLT,Int.reduceLE,Nat.reduceLT,ti2,ti3,ti4,ti94,ti95,ti22,ti46,ti28,ti37,ti30,ti39,ti36,ti114,ti32,ti41, hone, g0, List.mem_cons, List.not_mem_nil, or_false, forall_eq_or_imp, forall_eq, Array.size_empty]
  refine (resultsCode_c q v k l x ll 95 [.pointer (some ⟨H.next, 0, none⟩), .pointer (some ⟨H.next + 1, 0, none⟩), .pointer (some ⟨H.next + 2, 0, none⟩)] (twoB q a b) H1 hv1 hk hx1 hl hl2 ?_).to ?_
  · intro H' up' hb _
    obtain ⟨h2, _, _⟩ := schedB_at hb
    exact ptsBetween1_c q v a b _ _ _ H' h2 hone (by rw [up'.row _ (by omega), g0]) (by rw [up'.row _ (by omega), g1]) (by rw [up'.row _ (by omega), g2])
  by_cases hok : schedB q k l = true ∧ (resB q.toNat k l ll && twoB q a b) = true
  · obtain ⟨hb, hok2⟩ := hok
    unfold btwR
    rw [if_pos ⟨hb, hok2⟩, codeS_yes hb hok2]
    rw [Bool.and_eq_true] at hok2
    obtain ⟨hres, htwo⟩ := hok2
    obtain ⟨h2, _, _⟩ := schedB_at hb
    obtain ⟨n, rfl⟩ : ∃ n : Nat, q = n := ⟨q.toNat, by omega⟩
    rw [Int.toNat_natCast] at hres ⊢
    have ne1 : ¬ H.next + 3 = H.next + 4 := by omega
    have ne2 : ¬ H.next = H.next + 2 + 2 := by omega
    have ne3 : ¬ H.next = H.next + 3 := by omega
    try simp (disch := first | omega | (simp only [ints_length, List.length_replicate, List.length_set]; done) | (simp only [ints_length, List.length_replicate, List.length_set]; omega)) only [Sall,evalOp,init,binE,binI,unE,convE,okNil,builtE,gv,TD.isAgg,resV,↓reduceIte,Nat.reduceEqDiff,reduceCtorEq,Nat.reduceAdd,Nat.reduceMul,Nat.reduceLeDiff,quietOp,blindOp,Int.reduceEq,Int.reduceLT,Int.reduceLE,Nat.reduceLT,ti2,ti3,ti4,ti94,ti95,ti22,ti46,ti28,ti37,ti30,ti39,ti36,ti114,ti32,ti41, bne_self_eq_false, n1, ne2, ne3, g0]
    obtain ⟨Hg, eg⟩ : ∃ Hg, Hg = (((H1.push ⟨2, true, [.int .i64 0]⟩).push ⟨2, true, [.int .i64 0]⟩).setCells (H.next + 3) [.int .i64 0]).setCells (H.next + 4) [.int .i64 0] := ⟨_, rfl⟩
    have up2 : Up H.next H Hg := by rw [eg]; exact (((up.push (by omega) _).push (by simp only [AH.push_next]; omega) _).set (by omega) _).set (by omega) _
    have ng : Hg.next = H.next + 5 := by rw [eg]; simp only [AH.setCells_next, AH.push_next]; omega
    have old : ∀ i, i < H.next + 3 → Hg.row i = H1.row i := fun i hi => by rw [eg, AH.setCells_row, if_neg (by omega), AH.setCells_row, if_neg (by omega), AH.push_row, if_neg (by rw [AH.push_next]; omega), AH.push_row, if_neg (by omega)]
    have g3 : Hg.row (H.next + 3) = some ⟨2, true, [.int .i64 0]⟩ := by rw [eg, AH.setCells_row, if_neg (by omega), AH.setCells_row, if_pos rfl, AH.push_row, if_neg (by rw [AH.push_next]; omega), AH.push_row, if_pos (by omega)]; rfl
    have g4 : Hg.row (H.next + 4) = some ⟨2, true, [.int .i64 0]⟩ := by rw [eg, AH.setCells_row, if_pos rfl, AH.setCells_row, if_neg (by omega), AH.push_row, if_pos (by rw [AH.push_next]; omega)]; rfl
    rw [← eg]
    clear eg
    have k0 : Hg.row H.next = some ⟨30, true, [.int .i64 n, v]⟩ := by rw [old _ (by omega), g0]
    have k1 : Hg.row (H.next + 1) = some ⟨2, true, [.int .i64 a]⟩ := by rw [old _ (by omega), g1]
    have k2 : Hg.row (H.next + 2) = some ⟨2, true, [.int .i64 b]⟩ := by rw [old _ (by omega), g2]
    try simp (disch := first | omega | (simp only [ints_length, List.length_replicate, List.length_set]; done) | (simp only [ints_length, List.length_replicate, List.length_set]; omega)) only [Sall,evalOp,init,binE,binI,unE,convE,okNil,builtE,gv,TD.isAgg,resV,↓reduceIte,Nat.reduceEqDiff,reduceCtorEq,Nat.reduceAdd,Nat.reduceMul,Nat.reduceLeDiff,quietOp,blindOp,Int.reduceEq,Int.reduceLT,Int.reduceLE,Nat.reduceLT,ti2,ti3,ti4,ti94,ti95,ti22,ti46,ti28,ti37,ti30,ti39,ti36,ti114,ti32,ti41, k0, hone, ne2, g0, List.mem_cons, List.not_mem_nil, or_false, forall_eq_or_imp, forall_eq, Array.size_empty]
    refine (games_c n v k l x ll 98 [.pointer (some ⟨H.next + 1, 0, none⟩), .pointer (some ⟨H.next + 2, 0, none⟩), .pointer (some ⟨H.next + 3, 0, none⟩), .pointer (some ⟨H.next + 4, 0, none⟩)]
      (fun es H1 => Up H.next H H1 ∧ H.next + 5 ≤ H1.next ∧ H1.row (H.next + 1) = some ⟨2, true, [.int .i64 a]⟩ ∧ H1.row (H.next + 2) = some ⟨2, true, [.int .i64 b]⟩ ∧ H1.row (H.next + 3) = some ⟨2, true, [.int .i64 (btw a b es).1]⟩ ∧ H1.row (H.next + 4) = some ⟨2, true, [.int .i64 (btw a b es).2]⟩)
      H Hg hb hres ⟨up2, by omega, k1, k2, g3, g4⟩ hl hv hx (fun es H' hS i r hr => by rw [hS.1.row i (hs _ _ hr), hr]) ?_ ?_).mono ?_
    · rintro es H1 H2 ⟨u1, m1, k1, k2, k3, k4⟩ hn2 hr2
      exact ⟨⟨by have := u1.next; omega, fun i hi => by rw [hr2 i (by omega), u1.row i hi]⟩, by omega, by rw [hr2 _ (by omega), k1], by rw [hr2 _ (by omega), k2], by rw [hr2 _ (by omega), k3], by rw [hr2 _ (by omega), k4]⟩
    · rintro es rd p q o H1 ⟨u1, m1, k1, k2, k3, k4⟩ hn1 hrd hp hq ho
      refine (ptsBetween2_c rd p q o a b _ _ _ _ _ _ H1 k1 k2 k3 k4).mono ?_
      rintro _ H2 rfl
      rw [btw_append]
      unfold btwStep
      dsimp only
      by_cases c1 : p = a ∧ q = b
      · rw [if_pos c1, if_pos c1]
        exact ⟨⟨u1.set (by omega) _, m1, by rw [AH.setCells_row, if_neg (by omega), k1], by rw [AH.setCells_row, if_neg (by omega), k2], by rw [AH.setCells_row, if_pos rfl, k3]; rfl, by rw [AH.setCells_row, if_neg (by omega), k4]⟩, Nat.le_refl _, fun i hi _ => by rw [AH.setCells_row, if_neg (by omega)]⟩
      · rw [if_neg c1, if_neg c1]
        by_cases c2 : p = b ∧ q = a
        · rw [if_pos c2, if_pos c2]
          exact ⟨⟨u1.set (by omega) _, m1, by rw [AH.setCells_row, if_neg (by omega), k1], by rw [AH.setCells_row, if_neg (by omega), k2], by rw [AH.setCells_row, if_neg (by omega), k3], by rw [AH.setCells_row, if_pos rfl, k4]; rfl⟩, Nat.le_refl _, fun i hi _ => by rw [AH.setCells_row, if_neg (by omega)]⟩
        · rw [if_neg c2, if_neg c2]
          exact ⟨⟨u1, m1, k1, k2, k3, k4⟩, Nat.le_refl _, fun i hi _ => rfl⟩
    · rintro _ H2 ⟨⟨u1, m1, k1, k2, k3, k4⟩, hn2⟩
      refine Holds.mp ?_
      try simp (disch := first | omega | (simp only [ints_length, List.length_replicate, List.length_set]; done) | (simp only [ints_length, List.length_replicate, List.length_set]; omega)) only [Sall,evalOp,init,binE,binI,unE,convE,okNil,builtE,gv,TD.isAgg,resV,↓reduceIte,Nat.reduceEqDiff,reduceCtorEq,Nat.reduceAdd,Nat.reduceMul,Nat.reduceLeDiff,quietOp,blindOp,Int.reduceEq,Int.reduceLT,Int.reduceLE,Nat.reduceLT,ti2,ti3,ti4,ti94,ti95,ti22,ti46,ti28,ti37,ti30,ti39,ti36,ti114,ti32,ti41, true_and]
      refine draw_id (by kernel_rfl) (by kernel_rfl) ?_
      try simp (disch := first | omega | (simp only [ints_length, List.length_replicate, List.length_set]; done) | (simp only [ints_length, List.length_replicate, List.length_set]; omega)) only [Sall,evalOp,init,binE,binI,unE,convE,okNil,builtE,gv,TD.isAgg,resV,↓reduceIte,Nat.reduceEqDiff,reduceCtorEq,Nat.reduceAdd,Nat.reduceMul,Nat.reduceLeDiff,quietOp,blindOp,Int.reduceEq,Int.reduceLT,Int.reduceLE,Nat.reduceLT,ti2,ti3,ti4,ti94,ti95,ti22,ti46,ti28,ti37,ti30,ti39,ti36,ti114,ti32,ti41, k3, k4]
      exact u1
  · have ec := codeS_no hok
    unfold btwR
    rw [if_neg hok]
    try simp (disch := first | omega | (simp only [ints_length, List.length_replicate, List.length_set]; done) | (simp only [ints_length, List.length_replicate, List.length_set]; omega)) only [Sall,evalOp,init,binE,binI,unE,convE,okNil,builtE,gv,TD.isAgg,resV,↓reduceIte,Nat.reduceEqDiff,reduceCtorEq,Nat.reduceAdd,Nat.reduceMul,Nat.reduceLeDiff,quietOp,blindOp,Int.reduceEq,Int.reduceLT,Int.reduceLE,Nat.reduceLT,ti2,ti3,ti4,ti94,ti95,ti22,ti46,ti28,ti37,ti30,ti39,ti36,ti114,ti32,ti41, ec]
    exact up

theorem codeS_le {q : Int} {k : Nat} {l : List Int} {b b' : Bool} (h : ¬ (schedB q k l = true ∧ b = true)) (hb : b' = true → b = true) : codeS q k l b = codeS q k l b' := by
  unfold codeS
  by_cases h1 : schedB q k l = true
  · rw [if_pos h1, if_pos h1, if_neg (fun h2 => h ⟨h1, h2⟩), if_neg (fun h2 => h ⟨h1, hb h2⟩)]
  · rw [if_neg h1, if_neg h1]

theorem specPointsBetween_c (q : Int) (v : Value) (k : Nat) (l : List Int) (x : Value) (ll : List (List Int)) (a b : Int) (H : AH) (hv : Rd 14 H v k l) (hk : k ≤ 4294967296) (hx : Rd2 1 H x ll) (hl : ll.length ≤ 4294967296) (hl2 : ∀ y ∈ ll, y.length ≤ 4294967296)
    (_ : -9223372036854775808 ≤ a ∧ a ≤ 9223372036854775807) (_ : -9223372036854775808 ≤ b ∧ b ≤ 9223372036854775807) :
    ACalls Try.prog 48 [.agg #[.int .i64 q, v], x, .int .i64 a, .int .i64 b] H (is (.tuple #[.int .i64 (btwR q k l ll a b).1, .int .i64 (btwR q k l ll a b).2, .int .i64 (codeS q k l (resB q.toNat k l ll && twoB q a b))]) H) := by
  refine ACalls.wf (by kernel_rfl) fun hs => acalls_up (by simp [flat, Abs.scal]) (acalls_of_awp [.tmp 8, .tmp 9, .tmp 10] Try.func48 (by kernel_rfl) rfl rfl (Nat.le_of_ble_eq_true rfl) (by kernel_rfl) ?_)
  have hone := hv.one
  have zz : zeros 2 [.int .i64 0] = [.int .i64 0, .int .i64 0] := rfl
  try simp (disch := first | omega | (simp only [ints_length, List.length_replicate, List.length_set]; done) | (simp only [ints_length, List.length_replicate, List.length_set]; omega)) only [Sall,evalOp,init,binE,binI,unE,convE,okNil,builtE,gv,TD.isAgg,resV,↓reduceIte,Nat.reduceEqDiff,reduceCtorEq,Nat.reduceAdd,Nat.reduceMul,Nat.reduceLeDiff,quietOp,blindOp,Int.reduceEq,Int.reduceLT,Int.reduceLE,Nat.reduceLT,ti2,ti3,ti4,ti94,ti95,ti22,ti46,ti28,ti37,ti30,ti39,ti36,ti114,ti32,ti41, hone, zz]
  obtain ⟨H1, eg⟩ : ∃ H1, H1 = (H.push ⟨30, true, [.int .i64 q, v]⟩).push ⟨2, true, [.int .i64 a, .int .i64 b]⟩ := ⟨_, rfl⟩
  have up : Up H.next H H1 := by rw [eg]; exact ((Up.refl _ H).push (by omega) _).push (by simp only [AH.push_next]; omega) _
  have g0 : H1.row H.next = some ⟨30, true, [.int .i64 q, v]⟩ := by rw [eg]; (simp [AH.setCells_row, AH.push_row, AH.push_next] <;> (try omega) <;> (repeat rw [if_neg (by omega)]))
  have g1 : H1.row (H.next + 1) = some ⟨2, true, ints [a, b]⟩ := by rw [eg, AH.push_row, if_pos (by rw [AH.push_next])]; rfl
  have n1 : H1.next = H.next + 2 := by rw [eg]; rfl
  rw [← eg]
  clear eg
  have hv1 := hv.same (up.le hs).row
  have hx1 := hx.same (up.le hs).row
  have ht : Rd 1 H1 (.slice (some ⟨H.next + 1, 0, some 1⟩) 2 2) 2 [a, b] := Fr.rd (ty := 2) (lo := 0) (hi := H.next + 2) ⟨rfl, .inr ⟨H.next + 1, by omega, by omega, rfl, g1⟩⟩
  refine (l10Code_c q v k l x ll _ 2 [a, b] H1 hv1 hk hx1 hl hl2 ht (by omega)).to ?_
  have eall : ((List.range 2).all fun i => decide (0 ≤ [a, b].getD i 0 ∧ [a, b].getD i 0 ≤ q - 1)) = (decide (0 ≤ a ∧ a ≤ q - 1) && decide (0 ≤ b ∧ b ≤ q - 1)) := by
    show (decide (0 ≤ a ∧ a ≤ q - 1) && (decide (0 ≤ b ∧ b ≤ q - 1) && true)) = _
    rw [Bool.and_true]
  rw [eall]
  by_cases hok0 : schedB q k l = true ∧ (resB q.toNat k l ll && (decide (0 ≤ a ∧ a ≤ q - 1) && decide (0 ≤ b ∧ b ≤ q - 1))) = true
  · rw [codeS_yes hok0.1 hok0.2]
    obtain ⟨hb, hok2⟩ := hok0
    rw [Bool.and_eq_true] at hok2
    obtain ⟨hres, htwo⟩ := hok2
    obtain ⟨h2, hk40, hrounds⟩ := schedB_at hb
    obtain ⟨n, rfl⟩ : ∃ n : Nat, q = n := ⟨q.toNat, by omega⟩
    rw [Int.toNat_natCast] at hres ⊢
    obtain ⟨hlk, hrs⟩ := resB_at hres
    by_cases hab : a = b
    · have e0 : (a == b) = true := by simpa using hab
      have t0 : twoB n a b = false := by unfold twoB; rw [htwo, hab]; simp
      have e1 : ((2 : Int) != 0) = true := rfl
      try simp (disch := first | omega | (simp only [ints_length, List.length_replicate, List.length_set]; done) | (simp only [ints_length, List.length_replicate, List.length_set]; omega)) only [Sall,evalOp,init,binE,binI,unE,convE,okNil,builtE,gv,TD.isAgg,resV,↓reduceIte,Nat.reduceEqDiff,reduceCtorEq,Nat.reduceAdd,Nat.reduceMul,Nat.reduceLeDiff,quietOp,blindOp,Int.reduceEq,Int.reduceLT,Int.reduceLE,Nat.reduceLT,ti2,ti3,ti4,ti94,ti95,ti22,ti46,ti28,ti37,ti30,ti39,ti36,ti114,ti32,ti41, beq_self_eq_true, e0, e1]
      unfold btwR
      rw [t0, Bool.and_false, if_neg (by simp)]
      unfold codeS
      rw [if_pos hb]
      exact ⟨by simp, up⟩
    · have e0 : (a == b) = false := by simpa using hab
      have t0 : twoB n a b = true := by unfold twoB; rw [htwo]; simpa using hab
      have e1 : ((0 : Int) != 0) = false := rfl
      unfold btwR
      rw [t0, Bool.and_true, Int.toNat_natCast, if_pos ⟨hb, hres⟩, hres, codeS_yes hb (show (true && true) = true from rfl)]
      try simp (disch := first | omega | (simp only [ints_length, List.length_replicate, List.length_set]; done) | (simp only [ints_length, List.length_replicate, List.length_set]; omega)) only [Sall,evalOp,init,binE,binI,unE,convE,okNil,builtE,gv,TD.isAgg,resV,↓reduceIte,Nat.reduceEqDiff,reduceCtorEq,Nat.reduceAdd,Nat.reduceMul,Nat.reduceLeDiff,quietOp,blindOp,Int.reduceEq,Int.reduceLT,Int.reduceLE,Nat.reduceLT,ti2,ti3,ti4,ti94,ti95,ti22,ti46,ti28,ti37,ti30,ti39,ti36,ti114,ti32,ti41, beq_self_eq_true, e0, e1]
      refine awp_loop (fun m t H' => ∃ c : Nat, m = ll.length - c ∧ c ≤ ll.length ∧ t 14 = .int .i64 c ∧ t 12 = .int .i64 (btw a b (meets n l ll c)).1 ∧ t 13 = .int .i64 (btw a b (meets n l ll c)).2 ∧ t 2 = .int .i64 a ∧ t 3 = .int .i64 b ∧ t 1 = x ∧ t 4 = .pointer (some ⟨H.next, 0, none⟩) ∧ Up H.next H H' ∧ H.next < H'.next ∧ H'.row H.next = some ⟨30, true, [.int .i64 n, v]⟩) ll.length ?_ ?_
      · refine ⟨0, by omega, by omega, ?_⟩
        try simp (disch := first | omega | (simp only [ints_length, List.length_replicate, List.length_set]; done) | (simp only [ints_length, List.length_replicate, List.length_set]; omega)) only [Sall,evalOp,init,binE,binI,unE,convE,okNil,builtE,gv,TD.isAgg,resV,↓reduceIte,Nat.reduceEqDiff,reduceCtorEq,Nat.reduceAdd,Nat.reduceMul,Nat.reduceLeDiff,quietOp,blindOp,Int.reduceEq,Int.reduceLT,Int.reduceLE,Nat.reduceLT,ti2,ti3,ti4,ti94,ti95,ti22,ti46,ti28,ti37,ti30,ti39,ti36,ti114,ti32,ti41, Int.natCast_zero, meets_zero, btw_nil]
        exact ⟨up, by omega, g0⟩
      · rintro m t H' ⟨c, hm, h14, ht14, h12, h13, h2, h3, h1, h4, hup, hnx, hr1⟩
        try simp (disch := first | omega | (simp only [ints_length, List.length_replicate, List.length_set]; done) | (simp only [ints_length, List.length_replicate, List.length_set]; omega)) only [Sall,evalOp,init,binE,binI,unE,convE,okNil,builtE,gv,TD.isAgg,resV,↓reduceIte,Nat.reduceEqDiff,reduceCtorEq,Nat.reduceAdd,Nat.reduceMul,Nat.reduceLeDiff,quietOp,blindOp,Int.reduceEq,Int.reduceLT,Int.reduceLE,Nat.reduceLT,ti2,ti3,ti4,ti94,ti95,ti22,ti46,ti28,ti37,ti30,ti39,ti36,ti114,ti32,ti41, ht14, h1, builtE, hx.len]
        refine condC_dec (fun h => ?_) (fun h => ?_)
        · obtain ⟨i, o, u, cc, r, y, my, ex, hrB, hy, hsx, hok⟩ := hx.get (j := c) (by omega)
          obtain ⟨i', o', u', c', r', ev, hrB', hc', hs', hg'⟩ := hv.get (by omega)
          have hr' : H'.row i' = some r' := by rw [hup.row _ (hs _ _ hrB'), hrB']
          have hiB := hs _ _ hrB
          obtain ⟨hlen, hvals⟩ := hrs c (by omega)
          have hrl : (rnd l c).length = 14 := rnd_length l c k hv.1 (by omega)
          have hlh := hup.next
          refine draw_id (by kernel_rfl) (by kernel_rfl) ?_
          try simp (disch := first | omega | (simp only [ints_length, List.length_replicate, List.length_set]; done) | (simp only [ints_length, List.length_replicate, List.length_set]; omega)) only [Sall,evalOp,init,binE,binI,unE,convE,okNil,builtE,gv,TD.isAgg,resV,↓reduceIte,Nat.reduceEqDiff,reduceCtorEq,Nat.reduceAdd,Nat.reduceMul,Nat.reduceLeDiff,quietOp,blindOp,Int.reduceEq,Int.reduceLT,Int.reduceLE,Nat.reduceLT,ti2,ti3,ti4,ti94,ti95,ti22,ti46,ti28,ti37,ti30,ti39,ti36,ti114,ti32,ti41, ht14, h4, hr1, ev, hr', hg']
          (repeat refine And.intro (by omega) ?_)
          refine ACalls.wf (by kernel_rfl) fun hs1 => (l01Pairs_c n (rnd l c) hrl (by omega) H').mono ?_
          rintro p H3 ⟨up3, hp⟩
          refine ⟨.inr (.inr (up3.le hs1)), ?_⟩
          have n3 := up3.next
          have hr3 : H3.row H.next = some ⟨30, true, [.int .i64 n, v]⟩ := by rw [up3.row _ (by omega), hr1]
          have hplen := pairsL_le (rnd l c) n
          have hround := hrounds c (by omega)
          have hup3 : Up H.next H H3 := hup.trans up3 hlh
          have hpl := hp.rd.len
          refine Holds.mp ?_
          try simp (disch := first | omega | (simp only [ints_length, List.length_replicate, List.length_set]; done) | (simp only [ints_length, List.length_replicate, List.length_set]; omega)) only [Sall,evalOp,init,binE,binI,unE,convE,okNil,builtE,gv,TD.isAgg,resV,↓reduceIte,Nat.reduceEqDiff,reduceCtorEq,Nat.reduceAdd,Nat.reduceMul,Nat.reduceLeDiff,quietOp,blindOp,Int.reduceEq,Int.reduceLT,Int.reduceLE,Nat.reduceLT,ti2,ti3,ti4,ti94,ti95,ti22,ti46,ti28,ti37,ti30,ti39,ti36,ti114,ti32,ti41, ht14, h12, h13, h2, h3, h1, h4]
          refine awp_loop (fun z t H4 => ∃ d : Nat, z = (pairsL (rnd l c) n).length - d ∧ d ≤ (pairsL (rnd l c) n).length ∧ t 16 = .int .i64 d ∧ t 15 = p ∧ t 14 = .int .i64 c ∧ t 12 = .int .i64 (btw a b (meets n l ll c ++ evRound n c (rnd l c) (ll.getD c []) d)).1 ∧ t 13 = .int .i64 (btw a b (meets n l ll c ++ evRound n c (rnd l c) (ll.getD c []) d)).2 ∧ t 2 = .int .i64 a ∧ t 3 = .int .i64 b ∧ t 1 = x ∧ t 4 = .pointer (some ⟨H.next, 0, none⟩) ∧ H4 = H3) (pairsL (rnd l c) n).length ?_ ?_
          · refine ⟨0, by omega, by omega, ?_⟩
            try simp (disch := first | omega | (simp only [ints_length, List.length_replicate, List.length_set]; done) | (simp only [ints_length, List.length_replicate, List.length_set]; omega)) only [Sall,evalOp,init,binE,binI,unE,convE,okNil,builtE,gv,TD.isAgg,resV,↓reduceIte,Nat.reduceEqDiff,reduceCtorEq,Nat.reduceAdd,Nat.reduceMul,Nat.reduceLeDiff,quietOp,blindOp,Int.reduceEq,Int.reduceLT,Int.reduceLE,Nat.reduceLT,ti2,ti3,ti4,ti94,ti95,ti22,ti46,ti28,ti37,ti30,ti39,ti36,ti114,ti32,ti41, Int.natCast_zero, evRound_zero, List.append_nil, ht14, h12, h13, h2, h3, h1, h4]
          · rintro z t H4 ⟨d, hz, hdp, h16, h15, ht14, h12, h13, h2, h3, h1, h4, rfl⟩
            try simp (disch := first | omega | (simp only [ints_length, List.length_replicate, List.length_set]; done) | (simp only [ints_length, List.length_replicate, List.length_set]; omega)) only [Sall,evalOp,init,binE,binI,unE,convE,okNil,builtE,gv,TD.isAgg,resV,↓reduceIte,Nat.reduceEqDiff,reduceCtorEq,Nat.reduceAdd,Nat.reduceMul,Nat.reduceLeDiff,quietOp,blindOp,Int.reduceEq,Int.reduceLT,Int.reduceLE,Nat.reduceLT,ti2,ti3,ti4,ti94,ti95,ti22,ti46,ti28,ti37,ti30,ti39,ti36,ti114,ti32,ti41, h16, h15, builtE, hpl]
            refine condC_dec (fun hh => ?_) (fun hh => ?_)
            · obtain ⟨pi, pvs, px, pm, pb, pc, rfl, q1, q2, q3, q4, q5, q6, q7, q8⟩ := hp.getF (j := d) (by omega)
              have hpm := q8.lenK1
              obtain ⟨aa, ha1, ha2, ha3⟩ := pairsL_get (rnd l c) n d (by omega)
              obtain ⟨_, ha4, ha5, _⟩ := roundB_at hround (a := aa) (by omega)
              have hmy := hsx.lenK1
              obtain ⟨i5, o5, u5, c5, r5, rfl, gB, g2, g3, _⟩ := hsx.get (by omega)
              have hi5 := hs _ _ gB
              have g1 : H4.row i5 = some r5 := by rw [hup3.row _ hi5, gB]
              have gr : H4.row i = some r := by rw [hup3.row _ hiB, hrB]
              have g4 := g3 d (by omega)
              rw [ha3] at q8 hpm
              simp only [List.length_cons, List.length_nil] at hpm
              obtain rfl : pm = 2 := hpm
              obtain ⟨i6, w1, w2, rfl, w3⟩ := q8.get (by omega)
              have evs1 : btw a b (meets n l ll c ++ evRound n c (rnd l c) (ll.getD c []) (d + 1)) = btw a b (((meets n l ll c ++ evRound n c (rnd l c) (ll.getD c []) d) ++ [(c, (aa : Int), (rnd l c).getD aa 0, wonI ((ll.getD c []).getD d 0))]) ++ [(c, (rnd l c).getD aa 0, (aa : Int), 2 - wonI ((ll.getD c []).getD d 0))]) := by
                rw [evRound_succ, ha3]; simp [evPair]
              rw [btw_pair hab] at evs1
              have i0 : (ints [(aa : Int), (rnd l c).getD aa 0])[Int.toNat 0]? = some (.int .i64 aa) := rfl
              have i1 : (ints [(aa : Int), (rnd l c).getD aa 0])[Int.toNat 1]? = some (.int .i64 ((rnd l c).getD aa 0)) := rfl
              revert h12 h13 evs1
              generalize btw a b (meets n l ll c ++ evRound n c (rnd l c) (ll.getD c []) d) = A
              intro h12 h13 evs1
              try simp (disch := first | omega | (simp only [ints_length, List.length_replicate, List.length_set]; done) | (simp only [ints_length, List.length_replicate, List.length_set]; omega)) only [Sall,evalOp,init,binE,binI,unE,convE,okNil,builtE,gv,TD.isAgg,resV,↓reduceIte,Nat.reduceEqDiff,reduceCtorEq,Nat.reduceAdd,Nat.reduceMul,Nat.reduceLeDiff,quietOp,blindOp,Int.reduceEq,Int.reduceLT,Int.reduceLE,Nat.reduceLT,ti2,ti3,ti4,ti94,ti95,ti22,ti46,ti28,ti37,ti30,ti39,ti36,ti114,ti32,ti41, h16, ht14, h1, ex, gr, hy, hok, g1, g4]
              (repeat refine And.intro (by omega) ?_)
              refine (l10Won_c _ _).to ?_
              have B : ∀ x y : Int, ((x == y) = true ∧ x = y) ∨ ((x == y) = false ∧ ¬ x = y) := fun x y => by
                by_cases h : x = y
                · exact .inl ⟨by simpa using h, h⟩
                · exact .inr ⟨by simpa using h, h⟩
              refine Holds.mp ?_
              rcases B (aa : Int) a with ⟨e1, f1⟩ | ⟨e1, f1⟩ <;> rcases B ((rnd l c).getD aa 0) b with ⟨e2, f2⟩ | ⟨e2, f2⟩ <;> rcases B (aa : Int) b with ⟨e3, f3⟩ | ⟨e3, f3⟩ <;> rcases B ((rnd l c).getD aa 0) a with ⟨e4, f4⟩ | ⟨e4, f4⟩ <;> rw [holds_def]
              all_goals
                try simp (disch := first | omega | (simp only [ints_length, List.length_replicate, List.length_set]; done) | (simp only [ints_length, List.length_replicate, List.length_set]; omega)) only [Sall,evalOp,init,binE,binI,unE,convE,okNil,builtE,gv,TD.isAgg,resV,↓reduceIte,Nat.reduceEqDiff,reduceCtorEq,Nat.reduceAdd,Nat.reduceMul,Nat.reduceLeDiff,quietOp,blindOp,Int.reduceEq,Int.reduceLT,Int.reduceLE,Nat.reduceLT,ti2,ti3,ti4,ti94,ti95,ti22,ti46,ti28,ti37,ti30,ti39,ti36,ti114,ti32,ti41, h16, h15, ht14, h12, h13, h2, h3, h1, q3, q5, w3, i0, i1, e1, e2, e3, e4]
                (repeat refine And.intro (by omega) ?_)
                refine ⟨(pairsL (rnd l c) n).length - (d + 1), by omega, d + 1, rfl, by omega, w64 (by omega), ?_⟩
                rw [evs1]
                first | (rw [if_pos ⟨f1, f2⟩]; and_intros <;> first | rfl | assumption) | (rw [if_neg (fun h => f1 h.1), if_pos ⟨f3, f4⟩]; and_intros <;> first | rfl | assumption) | (rw [if_neg (fun h => f2 h.2), if_pos ⟨f3, f4⟩]; and_intros <;> first | rfl | assumption) | (rw [if_neg (fun h => f1 h.1), if_neg (fun h => f3 h.1)]; and_intros <;> first | rfl | assumption) | (rw [if_neg (fun h => f1 h.1), if_neg (fun h => f4 h.2)]; and_intros <;> first | rfl | assumption) | (rw [if_neg (fun h => f2 h.2), if_neg (fun h => f3 h.1)]; and_intros <;> first | rfl | assumption) | (rw [if_neg (fun h => f2 h.2), if_neg (fun h => f4 h.2)]; and_intros <;> first | rfl | assumption)
            · try simp (disch := first | omega | (simp only [ints_length, List.length_replicate, List.length_set]; done) | (simp only [ints_length, List.length_replicate, List.length_set]; omega)) only [Sall,evalOp,init,binE,binI,unE,convE,okNil,builtE,gv,TD.isAgg,resV,↓reduceIte,Nat.reduceEqDiff,reduceCtorEq,Nat.reduceAdd,Nat.reduceMul,Nat.reduceLeDiff,quietOp,blindOp,Int.reduceEq,Int.reduceLT,Int.reduceLE,Nat.reduceLT,ti2,ti3,ti4,ti94,ti95,ti22,ti46,ti28,ti37,ti30,ti39,ti36,ti114,ti32,ti41, ht14, h12, h13, h2, h3, h1, h4, w64]
              have hbb : d = (pairsL (rnd l c) n).length := by omega
              refine ⟨ll.length - (c + 1), by omega, c + 1, rfl, by omega, by omega, ?_⟩
              rw [meets_succ, ← hbb]
              exact ⟨rfl, rfl, hup3, by omega, hr3⟩
        · have hc : c = ll.length := by omega
          subst hc
          try simp (disch := first | omega | (simp only [ints_length, List.length_replicate, List.length_set]; done) | (simp only [ints_length, List.length_replicate, List.length_set]; omega)) only [Sall,evalOp,init,binE,binI,unE,convE,okNil,builtE,gv,TD.isAgg,resV,↓reduceIte,Nat.reduceEqDiff,reduceCtorEq,Nat.reduceAdd,Nat.reduceMul,Nat.reduceLeDiff,quietOp,blindOp,Int.reduceEq,Int.reduceLT,Int.reduceLE,Nat.reduceLT,ti2,ti3,ti4,ti94,ti95,ti22,ti46,ti28,ti37,ti30,ti39,ti36,ti114,ti32,ti41, h12, h13]
          exact hup
  · have ec := codeS_no hok0
    have e1 : (codeS q k l (resB q.toNat k l ll && (decide (0 ≤ a ∧ a ≤ q - 1) && decide (0 ≤ b ∧ b ≤ q - 1))) == 0) = false := by
      cases h : (codeS q k l (resB q.toNat k l ll && (decide (0 ≤ a ∧ a ≤ q - 1) && decide (0 ≤ b ∧ b ≤ q - 1))) == 0) with
      | false => rfl
      | true => unfold bne at ec; rw [h] at ec; cases ec
    have hle : (resB q.toNat k l ll && twoB q a b) = true → (resB q.toNat k l ll && (decide (0 ≤ a ∧ a ≤ q - 1) && decide (0 ≤ b ∧ b ≤ q - 1))) = true := by
      unfold twoB
      intro h
      rw [Bool.and_eq_true, Bool.and_eq_true] at h
      rw [h.1, h.2.1]; rfl
    try simp (disch := first | omega | (simp only [ints_length, List.length_replicate, List.length_set]; done) | (simp only [ints_length, List.length_replicate, List.length_set]; omega)) only [Sall,evalOp,init,binE,binI,unE,convE,okNil,builtE,gv,TD.isAgg,resV,↓reduceIte,Nat.reduceEqDiff,reduceCtorEq,Nat.reduceAdd,Nat.reduceMul,Nat.reduceLeDiff,quietOp,blindOp,Int.reduceEq,Int.reduceLT,Int.reduceLE,Nat.reduceLT,ti2,ti3,ti4,ti94,ti95,ti22,ti46,ti28,ti37,ti30,ti39,ti36,ti114,ti32,ti41, ec, e1]
    unfold btwR
    rw [if_neg (fun h => hok0 ⟨h.1, hle h.2⟩), ← codeS_le hok0 hle]
    exact ⟨rfl, up⟩
end Go.Proofs.Ythabnjaapickiaa.A
