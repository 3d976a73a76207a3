/- Contracts: giving a point along a chain, the program's side. And what follows. -/
import Derived.Test.YtgkmdfjjlghecaaM4
section
set_option linter.unusedSimpArgs false
set_option linter.unusedVariables false
set_option maxRecDepth 100000
set_option maxHeartbeats 2000000
namespace Go.Proofs.Ytgkmdfjjlghecaa.A
open Go Go.Abs Go.RowKit

/-- The lists of owners: the row oi, and for each that is not empty a row of its own from b0 on. -/
structure OwR (b0 oi : Nat) (H : AH) (ow : List (List Int)) (vs : List Value) (q : Nat → Nat) : Prop where
  row : H.row oi = some ⟨38, true, vs⟩
  len : vs.length = ow.length
  at_ : ∀ g, g < ow.length → (vs[g]? = some (.slice none 0 0) ∧ ow.getD g [] = []) ∨ (ow.getD g [] ≠ [] ∧ vs[g]? = some (.slice (some ⟨q g, 0, some 1⟩) (ow.getD g []).length (ow.getD g []).length) ∧ b0 ≤ q g ∧ q g < H.next ∧ H.row (q g) = some ⟨2, true, ints (ow.getD g [])⟩)
  inj : ∀ g g', g < ow.length → g' < ow.length → ow.getD g [] ≠ [] → ow.getD g' [] ≠ [] → q g = q g' → g = g'

theorem OwR.fr {b0 oi : Nat} {H : AH} {ow : List (List Int)} {vs : List Value} {q : Nat → Nat} (h : OwR b0 oi H ow vs q) (hb : b0 ≤ H.next) {g : Nat} (hg : g < ow.length) :
    ∃ x lo hi, vs[g]? = some x ∧ Fr 1 2 lo hi H x (ow.getD g []).length (ow.getD g []) ∧ b0 ≤ lo ∧ lo ≤ hi ∧ hi ≤ H.next ∧ x.oneCell' = true ∧ (∀ j, lo ≤ j → j < hi → j = q g ∧ ow.getD g [] ≠ [] ∧ ∃ l, H.row j = some ⟨2, true, l⟩) ∧ ∀ z, z < ow.length → z ≠ g → ow.getD z [] ≠ [] → ¬ (lo ≤ q z ∧ q z < hi) := by
  rcases h.at_ g hg with ⟨h1, h2⟩ | ⟨h1, h2, h3, h4, h5⟩
  · exact ⟨_, H.next, H.next, h1, by rw [h2]; exact ⟨rfl, .inl ⟨rfl, rfl⟩⟩, hb, Nat.le_refl _, Nat.le_refl _, rfl, fun j _ _ => by omega, fun z _ _ _ => by omega⟩
  · refine ⟨_, q g, q g + 1, h2, ⟨(Nat.mul_one _).symm, .inr ⟨q g, Nat.le_refl _, Nat.lt_succ_self _, rfl, h5⟩⟩, h3, by omega, h4, rfl, fun j _ _ => ?_, fun z hz hzg hzn hh => ?_⟩
    · obtain rfl : j = q g := by omega
      exact ⟨rfl, h1, _, h5⟩
    exact hzg (h.inj z g hz hg hzn h1 (by omega))

theorem OwR.upd {b0 oi : Nat} {H H' : AH} {ow : List (List Int)} {vs : List Value} {q : Nat → Nat} (h : OwR b0 oi H ow vs q) {g p : Nat} {l : List Int} (hg : g < ow.length) (hn : H.next ≤ H'.next)
    (hr : H'.row oi = some ⟨38, true, vs.set g (.slice (some ⟨p, 0, some 1⟩) l.length l.length)⟩) (hp : (p = q g ∧ ow.getD g [] ≠ []) ∨ H.next ≤ p) (hp0 : b0 ≤ p) (hp1 : p < H'.next) (hpr : H'.row p = some ⟨2, true, ints l⟩) (hl : l ≠ [])
    (hz : ∀ z, z < ow.length → z ≠ g → ow.getD z [] ≠ [] → H'.row (q z) = H.row (q z)) :
    OwR b0 oi H' (ow.set g l) (vs.set g (.slice (some ⟨p, 0, some 1⟩) l.length l.length)) (fun z => if z = g then p else q z) := by
  have hlen := h.len
  have e1 : (ow.set g l).getD g [] = l := gset_eq _ _ _ _ hg
  have e2 : ∀ z, z ≠ g → (ow.set g l).getD z [] = ow.getD z [] := fun z hz => gset_ne _ _ _ _ _ (Ne.symm hz)
  have old : ∀ z, z < ow.length → ow.getD z [] ≠ [] → q z < H.next := fun z hz hne => by
    rcases h.at_ z hz with ⟨_, k⟩ | ⟨_, _, _, k, _⟩
    · exact absurd k hne
    · exact k
  refine ⟨hr, by simp [hlen], fun z hzl => ?_, fun a a' ha ha' hn1 hn2 he => ?_⟩
  · rw [List.length_set] at hzl
    by_cases e : z = g
    · subst e
      refine .inr ?_
      rw [e1, if_pos rfl]
      exact ⟨hl, by rw [List.getElem?_set_self (by omega)], hp0, hp1, hpr⟩
    · rw [e2 z e, if_neg e, List.getElem?_set_ne (Ne.symm e)]
      rcases h.at_ z hzl with k | ⟨k1, k2, k3, k4, k5⟩
      · exact .inl k
      · exact .inr ⟨k1, k2, k3, by omega, by rw [hz z hzl e k1]; exact k5⟩
  · rw [List.length_set] at ha ha'
    by_cases ea : a = g
    · by_cases eb : a' = g
      · rw [ea, eb]
      · rw [if_pos ea, if_neg eb] at he
        rw [e2 a' eb] at hn2
        rcases hp with ⟨k, k2⟩ | k
        · have := h.inj g a' hg ha' k2 hn2 (by omega)
          exact absurd this.symm eb
        · have := old a' ha' hn2; omega
    · by_cases eb : a' = g
      · rw [if_neg ea, if_pos eb] at he
        rw [e2 a ea] at hn1
        rcases hp with ⟨k, k2⟩ | k
        · have := h.inj a g ha hg hn1 k2 (by omega)
          exact absurd this ea
        · have := old a ha hn1; omega
      · rw [if_neg ea, if_neg eb] at he
        rw [e2 a ea] at hn1
        rw [e2 a' eb] at hn2
        exact h.inj a a' ha ha' hn1 hn2 he

theorem OwR.keep {b0 oi : Nat} {H H' : AH} {ow : List (List Int)} {vs : List Value} {q : Nat → Nat} (h : OwR b0 oi H ow vs q) (hn : H.next ≤ H'.next) (hs : ∀ j r, H.row j = some r → (r.ty = 38 ∧ j = oi) ∨ (r.ty = 2 ∧ b0 ≤ j) → H'.row j = some r) : OwR b0 oi H' ow vs q := by
  refine ⟨hs _ _ h.row (.inl ⟨rfl, rfl⟩), h.len, fun g hg => ?_, h.inj⟩
  rcases h.at_ g hg with k | ⟨k1, k2, k3, k4, k5⟩
  · exact .inl k
  · exact .inr ⟨k1, k2, k3, by omega, hs _ _ k5 (.inr ⟨rfl, k3⟩)⟩

/-- What the search may change: room, owners, met, and the owners' rows. -/
structure StH (b0 ri oi me : Nat) (B : AH) (s : HS) (H : AH) : Prop where
  rm : H.row ri = some ⟨2, true, ints s.rm⟩
  mt : H.row me = some ⟨4, true, bools s.mt⟩
  ow : ∃ vs q, OwR b0 oi H s.ow vs q
  fix : ∀ j, j < b0 → j ≠ ri → j ≠ oi → H.row j = B.row j
  nxt : b0 ≤ H.next
  sc : Sc H

theorem StH.put {b0 ri oi me : Nat} {B H H4 : AH} {s : HS} {vs : List Value} {q : Nat → Nat} {g lo hi p : Nat} {l : List Int} (hS : StH b0 ri oi me B s H) (hO : OwR b0 oi H s.ow vs q) (hg : g < s.ow.length) (hb : ri < b0 ∧ oi < b0 ∧ ri ≠ oi ∧ b0 ≤ me) (hlo : b0 ≤ lo)
    (hj : ∀ j, lo ≤ j → j < hi → j = q g ∧ s.ow.getD g [] ≠ [] ∧ ∃ l, H.row j = some ⟨2, true, l⟩) (hz : ∀ z, z < s.ow.length → z ≠ g → s.ow.getD z [] ≠ [] → ¬ (lo ≤ q z ∧ q z < hi))
    (n4 : H.next ≤ H4.next) (s4 : ∀ j, j < H.next → ¬ (lo ≤ j ∧ j < hi) → H4.row j = H.row j) (sc4 : Sc H4) (hp : (p = q g ∧ s.ow.getD g [] ≠ []) ∨ H.next ≤ p) (hp0 : b0 ≤ p) (hp1 : p < H4.next) (hpr : H4.row p = some ⟨2, true, ints l⟩) (hl : l ≠ []) :
    StH b0 ri oi me B ⟨s.ow.set g l, s.rm, s.mt⟩ (H4.setCells oi (vs.set g (.slice (some ⟨p, 0, some 1⟩) l.length l.length))) := by
  obtain ⟨b1, b2, b3, b4⟩ := hb
  have nx := hS.nxt
  have hmn : me < H.next := hS.sc _ _ hS.mt
  have hno : ∀ j, j < H.next → j < b0 → H4.row j = H.row j := fun j h1 h2 => s4 j h1 (by omega)
  have hml : ¬ (lo ≤ me ∧ me < hi) := fun ⟨h1, h2⟩ => by
    obtain ⟨_, _, l, h3⟩ := hj me h1 h2
    rw [hS.mt] at h3; cases h3
  refine ⟨?_, ?_, ⟨_, _, OwR.upd hO hg n4 ?_ hp hp0 hp1 ?_ hl fun z hzl hzg hzn => ?_⟩, fun j j1 j2 j3 => ?_, Nat.le_trans nx n4, sc4.set _ _⟩
  · rw [AH.setCells_row, if_neg b3, hno _ (by omega) b1]; exact hS.rm
  · rw [AH.setCells_row, if_neg (by omega), s4 _ hmn hml]; exact hS.mt
  · rw [AH.setCells_row, if_pos rfl, hno _ (by omega) b2, hO.row]; rfl
  · rw [AH.setCells_row, if_neg (by omega)]; exact hpr
  · have hzr := hO.at_ z hzl
    rcases hzr with ⟨_, k⟩ | ⟨_, _, k1, k2, _⟩
    · exact absurd k hzn
    · rw [AH.setCells_row, if_neg (by omega), s4 _ k2 (hz z hzl hzg hzn)]
  · rw [AH.setCells_row, if_neg j3, hno _ (by omega) j1]
    exact hS.fix j j1 j2 j3

/-- The games: a row of rows of two teams each. -/
def GmR (b0 ri oi G : Nat) (tm : Nat → Nat → Nat) (B : AH) (gm : Value) : Prop :=
  ∃ gi vs, gm = .slice (some ⟨gi, 0, some 1⟩) G G ∧ gi < b0 ∧ gi ≠ ri ∧ gi ≠ oi ∧ B.row gi = some ⟨38, true, vs⟩ ∧ ∀ j, j < G → ∃ q, q < b0 ∧ q ≠ ri ∧ q ≠ oi ∧ vs[j]? = some (.slice (some ⟨q, 0, some 1⟩) 2 2) ∧ B.row q = some ⟨2, true, ints [(tm j 0 : Int), (tm j 1 : Int)]⟩

theorem idx_mem {l : List Int} {x : Int} (h : x ∈ l) : firstI (fun i => l.getD i 0 == x) l.length = (l.idxOf x : Nat) := by
  have hlt := List.idxOf_lt_length_iff.2 h
  refine firstI_at hlt ?_ fun j hj => ?_
  · rw [List.getD_eq_getElem?_getD, List.getElem?_eq_getElem hlt]
    simp
  · have hjl : j < l.length := by omega
    rw [List.getD_eq_getElem?_getD, List.getElem?_eq_getElem hjl, beq_eq_false_iff_ne]
    intro e
    have h2 : l.findIdx (· == x) = l.idxOf x := rfl
    have := List.not_of_lt_findIdx (p := (· == x)) (xs := l) (i := j) (by rw [h2]; exact hj)
    simp only [Option.getD_some] at e
    rw [e] at this
    simp at this
theorem idx_not {l : List Int} {x : Int} (h : ¬ x ∈ l) : firstI (fun i => l.getD i 0 == x) l.length = -1 := by
  refine firstI_none fun j hj => ?_
  rw [List.getD_eq_getElem?_getD, List.getElem?_eq_getElem hj, beq_eq_false_iff_ne]
  intro e
  exact h (e ▸ List.getElem_mem hj)

theorem hive_c (n G : Nat) (hnG : n ≤ 1024 ∧ G ≤ 65536) (tm : Nat → Nat → Nat) (htm : ∀ j k, tm j k < n) (gm : Value) (le rc oc gc ri oi b0 : Nat) (hne : ri ≠ oi) (hlt : ri < b0 ∧ oi < b0 ∧ le < b0 ∧ rc < b0 ∧ oc < b0 ∧ gc < b0)
    (hc1 : le ≠ ri ∧ rc ≠ ri ∧ oc ≠ ri ∧ gc ≠ ri) (hc2 : le ≠ oi ∧ rc ≠ oi ∧ oc ≠ oi ∧ gc ≠ oi) (B : AH)
    (hle : B.row le = some ⟨25, true, [gm]⟩) (hrc : B.row rc = some ⟨38, true, [.slice (some ⟨ri, 0, some 1⟩) n n]⟩) (hoc : B.row oc = some ⟨25, true, [.slice (some ⟨oi, 0, some 1⟩) G G]⟩)
    (hgc : B.row gc = some ⟨143, true, [.func (.func 161) #[] #[.pointer (some ⟨le, 0, none⟩), .pointer (some ⟨rc, 0, none⟩), .pointer (some ⟨oc, 0, none⟩), .pointer (some ⟨gc, 0, none⟩)]]⟩)
    (hgm : GmR b0 ri oi G tm B gm) :
    ∀ (f : Nat) (s : HS) (i me : Nat) (H : AH), HOk n G s → (∀ g, (s.ow.getD g []).length ≤ 2) → (∀ c, s.rm.getD c 0 ≤ 4294967296) → i < G → unm s.mt < f → StH b0 ri oi me B s H → b0 ≤ me →
      ACalls Try.prog 161 [.int .i64 i, .slice (some ⟨me, 0, some 1⟩) n n, .pointer (some ⟨le, 0, none⟩), .pointer (some ⟨rc, 0, none⟩), .pointer (some ⟨oc, 0, none⟩), .pointer (some ⟨gc, 0, none⟩)] H (fun r H' => r = .bool (hiveF tm G f s i).1 ∧ StH b0 ri oi me B (hiveF tm G f s i).2 H' ∧ H.next ≤ H'.next) := by
  obtain ⟨gi, gvs, rfl, gi0, gi1, gi2, gir, gat⟩ := hgm
  intro f
  induction f with
  | zero => intro s i me H _ _ _ _ h; omega
  | succ f ih =>
    intro s i me H hok hlen hru hi hun hS hme
    refine ACalls.wf (by kernel_rfl) fun hs => acalls_of_awp [.tmp 8] Try.func161 (by kernel_rfl) rfl rfl (Nat.le_of_ble_eq_true rfl) (by kernel_rfl) ?_
    have hF : hiveF tm G (f + 1) s i = hiveK (hiveF tm G f) tm G i (List.range' 0 2) s := rfl
    rw [hF]
    obtain ⟨l1, l2, l3, l4, l5, l6⟩ := hlt
    obtain ⟨c1, c2, c3, c4⟩ := hc1
    obtain ⟨d1, d2, d3, d4⟩ := hc2
    obtain ⟨yq, yq0, yq1, yq2, yq3, yq4⟩ := gat i hi
    have fx : ∀ {s' : HS} {H' : AH}, StH b0 ri oi me B s' H' → H'.row le = some ⟨25, true, [.slice (some ⟨gi, 0, some 1⟩) G G]⟩ ∧ H'.row rc = some ⟨38, true, [.slice (some ⟨ri, 0, some 1⟩) n n]⟩ ∧ H'.row oc = some ⟨25, true, [.slice (some ⟨oi, 0, some 1⟩) G G]⟩ ∧
        H'.row gc = some ⟨143, true, [.func (.func 161) #[] #[.pointer (some ⟨le, 0, none⟩), .pointer (some ⟨rc, 0, none⟩), .pointer (some ⟨oc, 0, none⟩), .pointer (some ⟨gc, 0, none⟩)]]⟩ ∧ H'.row gi = some ⟨38, true, gvs⟩ ∧ H'.row yq = some ⟨2, true, ints [(tm i 0 : Int), (tm i 1 : Int)]⟩ := fun h =>
      ⟨by rw [h.fix _ l3 c1 d1, hle], by rw [h.fix _ l4 c2 d2, hrc], by rw [h.fix _ l5 c3 d3, hoc], by rw [h.fix _ l6 c4 d4, hgc], by rw [h.fix _ gi0 gi1 gi2, gir], by rw [h.fix _ yq0 yq1 yq2, yq4]⟩
    obtain ⟨f1, f2, f3, f4, f5, f6⟩ := fx hS
    try simp (disch := first | omega | (simp only [ints_length, List.length_replicate, List.length_set]; done) | (simp only [ints_length, List.length_replicate, List.length_set]; omega)) only [Sall,evalOp,init,binE,binI,unE,convE,okNil,builtE,gv,TD.isAgg,resV,↓reduceIte,Nat.reduceEqDiff,reduceCtorEq,Nat.reduceAdd,Nat.reduceMul,Nat.reduceLeDiff,quietOp,blindOp,Int.reduceEq,Int.reduceLT,Int.reduceLE,Nat.reduceLT,ti2,ti3,ti4,ti45,ti46,ti38,ti25,ti30,ti22,ti32,ti24,ti95,ti172,ti169,ti165,ti166,ti65,ti143,ti87, f1, f5, yq3]
    refine ⟨by omega, ?_⟩
    refine awp_loop (fun m t H' => ∃ (k : Nat) (mt : List Bool), m = 2 - k ∧ k ≤ 2 ∧ t 19 = .int .i64 k ∧ t 18 = .int .i64 2 ∧ t 17 = .slice (some ⟨yq, 0, some 1⟩) 2 2 ∧ t 0 = .int .i64 i ∧ t 1 = .slice (some ⟨me, 0, some 1⟩) n n ∧ t 2 = .pointer (some ⟨le, 0, none⟩) ∧ t 3 = .pointer (some ⟨rc, 0, none⟩) ∧ t 4 = .pointer (some ⟨oc, 0, none⟩) ∧ t 5 = .pointer (some ⟨gc, 0, none⟩) ∧
      hiveK (hiveF tm G f) tm G i (List.range' 0 2) s = hiveK (hiveF tm G f) tm G i (List.range' k (2 - k)) ⟨s.ow, s.rm, mt⟩ ∧ mt.length = n ∧ unm mt < f + 1 ∧ StH b0 ri oi me B ⟨s.ow, s.rm, mt⟩ H' ∧ H.next ≤ H'.next) 2 ?_ ?_
    · refine ⟨0, s.mt, by omega, by omega, ?_⟩
      try simp (disch := first | omega | (simp only [ints_length, List.length_replicate, List.length_set]; done) | (simp only [ints_length, List.length_replicate, List.length_set]; omega)) only [Sall,evalOp,init,binE,binI,unE,convE,okNil,builtE,gv,TD.isAgg,resV,↓reduceIte,Nat.reduceEqDiff,reduceCtorEq,Nat.reduceAdd,Nat.reduceMul,Nat.reduceLeDiff,quietOp,blindOp,Int.reduceEq,Int.reduceLT,Int.reduceLE,Nat.reduceLT,ti2,ti3,ti4,ti45,ti46,ti38,ti25,ti30,ti22,ti32,ti24,ti95,ti172,ti169,ti165,ti166,ti65,ti143,ti87, Int.natCast_zero]
      exact ⟨rfl, hok.ml, hun, hS⟩
    · rintro m t H' ⟨k, mt, hm, hk, h19, h18, h17, h0, h1, h2, h3, h4, h5, hEq, hml, hun', hS', hnx⟩
      rw [hEq]
      clear f1 f2 f3 f4 f5 f6
      obtain ⟨f1, f2, f3, f4, f5, f6⟩ := fx hS'
      try simp (disch := first | omega | (simp only [ints_length, List.length_replicate, List.length_set]; done) | (simp only [ints_length, List.length_replicate, List.length_set]; omega)) only [Sall,evalOp,init,binE,binI,unE,convE,okNil,builtE,gv,TD.isAgg,resV,↓reduceIte,Nat.reduceEqDiff,reduceCtorEq,Nat.reduceAdd,Nat.reduceMul,Nat.reduceLeDiff,quietOp,blindOp,Int.reduceEq,Int.reduceLT,Int.reduceLE,Nat.reduceLT,ti2,ti3,ti4,ti45,ti46,ti38,ti25,ti30,ti22,ti32,ti24,ti95,ti172,ti169,ti165,ti166,ti65,ti143,ti87, h19, h18]
      refine condC_dec (fun h => ?_) (fun h => ?_)
      · rw [show 2 - k = (2 - (k + 1)) + 1 by omega, List.range'_succ]
        obtain ⟨b, hbd⟩ : ∃ b, b = tm i k := ⟨_, rfl⟩
        have hbn : b < n := by rw [hbd]; exact htm i k
        have hstep : hiveK (hiveF tm G f) tm G i (k :: List.range' (k + 1) (2 - (k + 1))) ⟨s.ow, s.rm, mt⟩ = (if mt.getD b false = true then hiveK (hiveF tm G f) tm G i (List.range' (k + 1) (2 - (k + 1))) ⟨s.ow, s.rm, mt⟩
          else if 0 < s.rm.getD b 0 then (true, ⟨s.ow.set i (s.ow.getD i [] ++ [(b : Int)]), s.rm.set b (s.rm.getD b 0 - 1), mt.set b true⟩)
          else if (hiveJ (hiveF tm G f) b i (List.range G) ⟨s.ow, s.rm, mt.set b true⟩).1 = true then hiveJ (hiveF tm G f) b i (List.range G) ⟨s.ow, s.rm, mt.set b true⟩
          else hiveK (hiveF tm G f) tm G i (List.range' (k + 1) (2 - (k + 1))) (hiveJ (hiveF tm G f) b i (List.range G) ⟨s.ow, s.rm, mt.set b true⟩).2) := by rw [hbd]; rfl
        rw [hstep]
        have g1 : (ints [(tm i 0 : Int), (tm i 1 : Int)])[k]? = some (.int .i64 b) := by
          have : k = 0 ∨ k = 1 := by omega
          rcases this with rfl | rfl <;> rw [hbd] <;> rfl
        have hbm : b < mt.length := by rw [hml]; exact hbn
        have m1 := bools_get? mt b hbm
        have hbs : (bools mt).set b (.bool true) = bools (mt.set b true) := bools_set _ _ _
        have s3 := hS'.mt
        dsimp only at s3
        obtain hmt | hmt : mt.getD b false = true ∨ mt.getD b false = false := by cases mt.getD b false <;> simp
        · rw [hmt] at m1
          rw [if_pos hmt]
          try simp (disch := first | omega | (simp only [ints_length, List.length_replicate, List.length_set]; done) | (simp only [ints_length, List.length_replicate, List.length_set]; omega)) only [Sall,evalOp,init,binE,binI,unE,convE,okNil,builtE,gv,TD.isAgg,resV,↓reduceIte,Nat.reduceEqDiff,reduceCtorEq,Nat.reduceAdd,Nat.reduceMul,Nat.reduceLeDiff,quietOp,blindOp,Int.reduceEq,Int.reduceLT,Int.reduceLE,Nat.reduceLT,ti2,ti3,ti4,ti45,ti46,ti38,ti25,ti30,ti22,ti32,ti24,ti95,ti172,ti169,ti165,ti166,ti65,ti143,ti87, h19, h18, h17, h0, h1, h2, h3, h4, h5, f6, g1, s3, m1, w64]
          (repeat refine And.intro (by omega) ?_)
          exact ⟨2 - (k + 1), by omega, k + 1, mt, rfl, by omega, by omega, rfl, hml, hun', hS', hnx⟩
        · rw [hmt] at m1
          rw [if_neg (by rw [hmt]; simp)]
          have s1 := hS'.rm
          dsimp only at s1
          have q1 := ints_get? s.rm b (by rw [hok.rl]; exact hbn)
          have hru' := hru b
          have lrl := hok.rl
          have lol := hok.ol
          have nrm : ¬ ri = me := fun e => by subst e; rw [s1] at s3; cases s3
          have nom : ¬ oi = me := fun e => by
            subst e
            obtain ⟨vs, q, hO⟩ := hS'.ow
            have := hO.row
            rw [s3] at this; cases this
          have ncm : ¬ rc = me := by omega
          try simp (disch := first | omega | (simp only [ints_length, List.length_replicate, List.length_set]; done) | (simp only [ints_length, List.length_replicate, List.length_set]; omega)) only [Sall,evalOp,init,binE,binI,unE,convE,okNil,builtE,gv,TD.isAgg,resV,↓reduceIte,Nat.reduceEqDiff,reduceCtorEq,Nat.reduceAdd,Nat.reduceMul,Nat.reduceLeDiff,quietOp,blindOp,Int.reduceEq,Int.reduceLT,Int.reduceLE,Nat.reduceLT,ti2,ti3,ti4,ti45,ti46,ti38,ti25,ti30,ti22,ti32,ti24,ti95,ti172,ti169,ti165,ti166,ti65,ti143,ti87, h19, h18, h17, h0, h1, h2, h3, h4, h5, f6, g1, s3, m1, hbs, bools_length, hml, f2, ncm, nrm, s1, q1]
          (repeat refine And.intro (by omega) ?_)
          obtain ⟨H1, hH1⟩ : ∃ H1, H1 = H'.setCells me (bools (mt.set b true)) := ⟨_, rfl⟩
          have hS1 : StH b0 ri oi me B ⟨s.ow, s.rm, mt.set b true⟩ H1 := by
            obtain ⟨vs, q, hO⟩ := hS'.ow
            refine ⟨?_, ?_, ⟨vs, q, hO.keep (by rw [hH1]; exact Nat.le_refl _) fun j r hr ht => ?_⟩, fun j j1 j2 j3 => ?_, by rw [hH1]; exact hS'.nxt, by rw [hH1]; exact hS'.sc.set _ _⟩
            · rw [hH1, AH.setCells_row, if_neg nrm]; exact s1
            · rw [hH1, AH.setCells_row, if_pos rfl, s3]; rfl
            · rw [hH1, AH.setCells_row, if_neg (fun e => by subst e; rw [s3] at hr; cases hr; rcases ht with ⟨h, _⟩ | ⟨h, _⟩ <;> cases h)]; exact hr
            · rw [hH1, AH.setCells_row, if_neg ?_]
              · exact hS'.fix j j1 j2 j3
              · omega
          have hn1 : H1.next = H'.next := by rw [hH1]; rfl
          rw [← hH1]
          clear hH1
          obtain ⟨f1, f2, f3, f4, f5, f6⟩ := fx hS1
          by_cases hr : 0 < s.rm.getD b 0
          · rw [if_pos hr]
            have t1 := hS1.rm
            try simp (disch := first | omega | (simp only [ints_length, List.length_replicate, List.length_set]; done) | (simp only [ints_length, List.length_replicate, List.length_set]; omega)) only [Sall,evalOp,init,binE,binI,unE,convE,okNil,builtE,gv,TD.isAgg,resV,↓reduceIte,Nat.reduceEqDiff,reduceCtorEq,Nat.reduceAdd,Nat.reduceMul,Nat.reduceLeDiff,quietOp,blindOp,Int.reduceEq,Int.reduceLT,Int.reduceLE,Nat.reduceLT,ti2,ti3,ti4,ti45,ti46,ti38,ti25,ti30,ti22,ti32,ti24,ti95,ti172,ti169,ti165,ti166,ti65,ti143,ti87, h19, h18, h17, h0, h1, h2, h3, h4, h5, f2, t1, q1, hr, decide_true, ints_set, lrl, w64]
            (repeat refine And.intro (by omega) ?_)
            obtain ⟨H2, hH2⟩ : ∃ H2, H2 = H1.setCells ri (ints (s.rm.set b (s.rm.getD b 0 - 1))) := ⟨_, rfl⟩
            have hS2 : StH b0 ri oi me B ⟨s.ow, s.rm.set b (s.rm.getD b 0 - 1), mt.set b true⟩ H2 := by
              obtain ⟨vs, q, hO⟩ := hS1.ow
              refine ⟨?_, ?_, ⟨vs, q, hO.keep (by rw [hH2]; exact Nat.le_refl _) fun j r hr ht => ?_⟩, fun j j1 j2 j3 => ?_, by rw [hH2]; exact hS1.nxt, by rw [hH2]; exact hS1.sc.set _ _⟩
              · rw [hH2, AH.setCells_row, if_pos rfl, t1]; rfl
              · rw [hH2, AH.setCells_row, if_neg (fun e => nrm e.symm)]; exact hS1.mt
              · rw [hH2, AH.setCells_row, if_neg (by rintro rfl; rcases ht with ⟨_, h⟩ | ⟨_, h⟩ <;> omega)]; exact hr
              · rw [hH2, AH.setCells_row, if_neg j2]
                exact hS1.fix j j1 j2 j3
            have hn2 : H2.next = H1.next := by rw [hH2]; rfl
            rw [← hH2]
            clear hH2
            have nx2 := hS2.nxt
            clear f1 f2 f3 f4 f5 f6
            obtain ⟨f1, f2, f3, f4, f5, f6⟩ := fx hS2
            obtain ⟨vs, q, hO⟩ := hS2.ow
            have sc2 := hS2.sc
            obtain ⟨x, lo, hi', x1, x2, x3, x4, x5, x6, x7, x8⟩ := hO.fr hS2.nxt (g := i) (show i < s.ow.length by omega)
            dsimp only at x1 x2 x7 x8
            have o1 := hO.row
            have lvs : vs.length = G := by rw [hO.len]; exact lol
            have zz : zeros 1 [.int .i64 0] = [.int .i64 0] := rfl
            refine draw_inS (fun j => j < b0) [0, 1, 2, 3, 4, 5, 6, 7, 8, 9, 10] (by kernel_rfl) (by kernel_rfl) (by kernel_rfl) ?_
            have oc1 : ∀ (ty : TypeId) (r : List Value), Go.Abs.Row.ok (Go.Abs.Row.mk ty true r) [x] = True := fun ty r => eq_true (.inl rfl)
            have ne8 : ¬ oi = H2.next := by omega
            have ne9 : ¬ oc = H2.next := by omega
            try simp (disch := first | omega | (simp only [ints_length, List.length_replicate, List.length_set]; done) | (simp only [ints_length, List.length_replicate, List.length_set]; omega)) only [Sall,evalOp,init,binE,binI,unE,convE,okNil,builtE,gv,TD.isAgg,resV,↓reduceIte,Nat.reduceEqDiff,reduceCtorEq,Nat.reduceAdd,Nat.reduceMul,Nat.reduceLeDiff,quietOp,blindOp,Int.reduceEq,Int.reduceLT,Int.reduceLE,Nat.reduceLT,ti2,ti3,ti4,ti45,ti46,ti38,ti25,ti30,ti22,ti32,ti24,ti95,ti172,ti169,ti165,ti166,ti65,ti143,ti87, awpIS_nil, awpIS_cons, stepIS_op, loadOk, h0, h4, f3, o1, x1, zz, slCells, ne8, ne9, oc1]
            (repeat refine And.intro (by omega) ?_)
            refine ⟨.inr (.inr (LE.les (((Up.refl _ H2).push (Nat.le_refl _) _).le sc2))), ?_⟩
            obtain ⟨H3, e3⟩ : ∃ H3, H3 = H2.push ⟨2, true, [.int .i64 b]⟩ := ⟨_, rfl⟩
            have n3 : H3.next = H2.next + 1 := by rw [e3]; rfl
            have r3 : ∀ j, j < H2.next → H3.row j = H2.row j := fun j hj => by rw [e3, AH.push_row, if_neg (by omega)]
            have sc3 : Sc H3 := by rw [e3]; exact sc2.push _
            rw [← e3]
            clear e3
            refine appE_frS (k := 1) (lo := lo) (hi := hi') (l := s.ow.getD i []) (m := [(b : Int)]) (x2.same fun j _ hj => r3 j (by omega)) rfl (by omega) rfl (by omega) (by decide) (by have := hlen i; omega) (by omega) sc3 ?_
            intro v' H4 n4 s4 sc4 f4'
            refine ⟨.inr (.inr ⟨by omega, fun j r hj hr => by rw [s4 j (by omega) (sc3 j r hr)]; exact hr⟩), ?_⟩
            have o4 : H4.row oi = some ⟨38, true, vs⟩ := by rw [s4 oi (by omega) (by omega), r3 oi (by omega), o1]
            have f4o := f4'.rd.one
            try simp (disch := first | omega | (simp only [ints_length, List.length_replicate, List.length_set]; done) | (simp only [ints_length, List.length_replicate, List.length_set]; omega)) only [Sall,evalOp,init,binE,binI,unE,convE,okNil,builtE,gv,TD.isAgg,resV,↓reduceIte,Nat.reduceEqDiff,reduceCtorEq,Nat.reduceAdd,Nat.reduceMul,Nat.reduceLeDiff,quietOp,blindOp,Int.reduceEq,Int.reduceLT,Int.reduceLE,Nat.reduceLT,ti2,ti3,ti4,ti45,ti46,ti38,ti25,ti30,ti22,ti32,ti24,ti95,ti172,ti169,ti165,ti166,ti65,ti143,ti87, awpIS_nil, awpIS_cons, stepIS_op, loadOk, h0, h4, f3, o4, lvs, f4o]
            obtain ⟨p, p1, p2, rfl, p4⟩ := f4'.get (by omega)
            have hpe : p = H3.next := by omega
            subst hpe
            refine ⟨by omega, by omega, .inr (.inl (by kernel_rfl)), ?_, by omega⟩
            have K := hS2.put hO (g := i) (show i < s.ow.length by omega) ⟨l1, l2, hne, hme⟩ x3 x7 x8 (by omega) (fun j j1 j2 => by rw [s4 j j2 (by omega), r3 j j1]) sc4 (.inr (by omega)) (by omega) (by omega) p4 (by simp)
            rw [List.length_append] at K
            exact K
          · rw [if_neg hr]
            have t1 := hS1.rm
            have o1' := hS1.ow
            try simp (disch := first | omega | (simp only [ints_length, List.length_replicate, List.length_set]; done) | (simp only [ints_length, List.length_replicate, List.length_set]; omega)) only [Sall,evalOp,init,binE,binI,unE,convE,okNil,builtE,gv,TD.isAgg,resV,↓reduceIte,Nat.reduceEqDiff,reduceCtorEq,Nat.reduceAdd,Nat.reduceMul,Nat.reduceLeDiff,quietOp,blindOp,Int.reduceEq,Int.reduceLT,Int.reduceLE,Nat.reduceLT,ti2,ti3,ti4,ti45,ti46,ti38,ti25,ti30,ti22,ti32,ti24,ti95,ti172,ti169,ti165,ti166,ti65,ti143,ti87, h19, h18, h17, h0, h1, h2, h3, h4, h5, f2, t1, q1, hr, decide_false, ints_set, lrl, f3, w64]
            (repeat refine And.intro (by omega) ?_)
            have hok1 : HOk n G ⟨s.ow, s.rm, mt.set b true⟩ := ⟨lol, lrl, by simp [hml], hok.er, hok.rr⟩
            have hun1 : unm (mt.set b true) < f := by have := unm_set hbm hmt; omega
            have hmb1 : (mt.set b true).getD b false = true := gset_eq _ _ _ _ hbm
            have hml1 : (mt.set b true).length = n := by simp [hml]
            revert hS1 hok1 hun1 hmb1 hml1
            generalize mt.set b true = mt1
            intro hS1 hok1 hun1 hmb1 hml1
            have hrange : List.range G = List.range' 0 G := List.range_eq_range'
            rw [hrange]
            refine awp_loop (fun m t H2 => ∃ (g : Nat) (mt2 : List Bool), m = G - g ∧ g ≤ G ∧ t 53 = .int .i64 g ∧ t 52 = .int .i64 G ∧ t 51 = .slice (some ⟨oi, 0, some 1⟩) G G ∧ t 10 = .int .i64 b ∧ t 19 = .int .i64 k ∧ t 18 = .int .i64 2 ∧ t 17 = .slice (some ⟨yq, 0, some 1⟩) 2 2 ∧ t 0 = .int .i64 i ∧ t 1 = .slice (some ⟨me, 0, some 1⟩) n n ∧ t 2 = .pointer (some ⟨le, 0, none⟩) ∧ t 3 = .pointer (some ⟨rc, 0, none⟩) ∧ t 4 = .pointer (some ⟨oc, 0, none⟩) ∧ t 5 = .pointer (some ⟨gc, 0, none⟩) ∧
              hiveJ (hiveF tm G f) b i (List.range' 0 G) ⟨s.ow, s.rm, mt1⟩ = hiveJ (hiveF tm G f) b i (List.range' g (G - g)) ⟨s.ow, s.rm, mt2⟩ ∧ mt2.length = n ∧ unm mt2 < f ∧ mt2.getD b false = true ∧ StH b0 ri oi me B ⟨s.ow, s.rm, mt2⟩ H2 ∧ H.next ≤ H2.next) G ?_ ?_
            · refine ⟨0, mt1, by omega, by omega, ?_⟩
              try simp (disch := first | omega | (simp only [ints_length, List.length_replicate, List.length_set]; done) | (simp only [ints_length, List.length_replicate, List.length_set]; omega)) only [Sall,evalOp,init,binE,binI,unE,convE,okNil,builtE,gv,TD.isAgg,resV,↓reduceIte,Nat.reduceEqDiff,reduceCtorEq,Nat.reduceAdd,Nat.reduceMul,Nat.reduceLeDiff,quietOp,blindOp,Int.reduceEq,Int.reduceLT,Int.reduceLE,Nat.reduceLT,ti2,ti3,ti4,ti45,ti46,ti38,ti25,ti30,ti22,ti32,ti24,ti95,ti172,ti169,ti165,ti166,ti65,ti143,ti87, Int.natCast_zero, h19, h18, h17, h0, h1, h2, h3, h4, h5]
              refine ⟨rfl, hml1, hun1, hmb1, hS1, by omega⟩
            · rintro m t H2 ⟨g, mt2, hm2, hg, h53, h52, h51, h10, h19, h18, h17, h0, h1, h2, h3, h4, h5, hJe, hml2, hun2, hmb2, hS2, hnx2⟩
              rw [hJe]
              clear f1 f2 f3 f4 f5 f6
              obtain ⟨f1, f2, f3, f4, f5, f6⟩ := fx hS2
              try simp (disch := first | omega | (simp only [ints_length, List.length_replicate, List.length_set]; done) | (simp only [ints_length, List.length_replicate, List.length_set]; omega)) only [Sall,evalOp,init,binE,binI,unE,convE,okNil,builtE,gv,TD.isAgg,resV,↓reduceIte,Nat.reduceEqDiff,reduceCtorEq,Nat.reduceAdd,Nat.reduceMul,Nat.reduceLeDiff,quietOp,blindOp,Int.reduceEq,Int.reduceLT,Int.reduceLE,Nat.reduceLT,ti2,ti3,ti4,ti45,ti46,ti38,ti25,ti30,ti22,ti32,ti24,ti95,ti172,ti169,ti165,ti166,ti65,ti143,ti87, h53, h52]
              refine condC_dec (fun hh => ?_) (fun hh => ?_)
              · rw [show G - g = (G - (g + 1)) + 1 by omega, List.range'_succ]
                have hok2 : HOk n G ⟨s.ow, s.rm, mt2⟩ := ⟨lol, lrl, hml2, hok.er, hok.rr⟩
                obtain ⟨vs, q, hO⟩ := hS2.ow
                obtain ⟨x, lo, hi', x1, x2, x3, x4, x5, x6, x7, x8⟩ := hO.fr hS2.nxt (g := g) (show g < s.ow.length by omega)
                have o1 := hO.row
                have oc1 : ∀ (ty : TypeId) (r : List Value), Go.Abs.Row.ok (Go.Abs.Row.mk ty true r) [x] = True := fun ty r => eq_true (.inl rfl)
                have hlg := hlen g
                dsimp only at x2 x7 x8
                try simp (disch := first | omega | (simp only [ints_length, List.length_replicate, List.length_set]; done) | (simp only [ints_length, List.length_replicate, List.length_set]; omega)) only [Sall,evalOp,init,binE,binI,unE,convE,okNil,builtE,gv,TD.isAgg,resV,↓reduceIte,Nat.reduceEqDiff,reduceCtorEq,Nat.reduceAdd,Nat.reduceMul,Nat.reduceLeDiff,quietOp,blindOp,Int.reduceEq,Int.reduceLT,Int.reduceLE,Nat.reduceLT,ti2,ti3,ti4,ti45,ti46,ti38,ti25,ti30,ti22,ti32,ti24,ti95,ti172,ti169,ti165,ti166,ti65,ti143,ti87, h53, h52, h51, h10, h19, h18, h17, h0, h1, h2, h3, h4, h5, o1, x1, oc1]
                (repeat refine And.intro (by omega) ?_)
                refine (indexI_c x (s.ow.getD g []) b H2 x2.rd (by omega)).to ?_
                by_cases hbg : (b : Int) ∈ s.ow.getD g []
                · rw [idx_mem hbg]
                  by_cases hgi : g = i
                  · have e1 : ((g : Int) != (i : Int)) = false := by rw [hgi]; exact bne_self_eq_false _
                    have e2 : decide ((0 : Int) ≤ ((s.ow.getD g []).idxOf (b : Int) : Nat)) = true := decide_eq_true (by omega)
                    have hst : hiveJ (hiveF tm G f) b i (g :: List.range' (g + 1) (G - (g + 1))) ⟨s.ow, s.rm, mt2⟩ = hiveJ (hiveF tm G f) b i (List.range' (g + 1) (G - (g + 1))) ⟨s.ow, s.rm, mt2⟩ := by
                      conv => lhs; unfold hiveJ
                      rw [if_neg (fun h => h.2 hgi)]
                    rw [hst]
                    try simp (disch := first | omega | (simp only [ints_length, List.length_replicate, List.length_set]; done) | (simp only [ints_length, List.length_replicate, List.length_set]; omega)) only [Sall,evalOp,init,binE,binI,unE,convE,okNil,builtE,gv,TD.isAgg,resV,↓reduceIte,Nat.reduceEqDiff,reduceCtorEq,Nat.reduceAdd,Nat.reduceMul,Nat.reduceLeDiff,quietOp,blindOp,Int.reduceEq,Int.reduceLT,Int.reduceLE,Nat.reduceLT,ti2,ti3,ti4,ti45,ti46,ti38,ti25,ti30,ti22,ti32,ti24,ti95,ti172,ti169,ti165,ti166,ti65,ti143,ti87, h53, h52, h51, h10, h19, h18, h17, h0, h1, h2, h3, h4, h5, e1, e2, w64]
                    exact ⟨G - (g + 1), by omega, g + 1, mt2, rfl, by omega, by omega, rfl, hml2, hun2, hmb2, hS2, hnx2⟩
                  · have e1 : ((g : Int) != (i : Int)) = true := by rw [bne_iff_ne]; omega
                    have e2 : decide ((0 : Int) ≤ ((s.ow.getD g []).idxOf (b : Int) : Nat)) = true := decide_eq_true (by omega)
                    have hst : hiveJ (hiveF tm G f) b i (g :: List.range' (g + 1) (G - (g + 1))) ⟨s.ow, s.rm, mt2⟩ = (if (hiveF tm G f ⟨s.ow, s.rm, mt2⟩ g).1 = true then (true, ⟨((hiveF tm G f ⟨s.ow, s.rm, mt2⟩ g).2.ow.set g (((hiveF tm G f ⟨s.ow, s.rm, mt2⟩ g).2.ow.getD g []).erase (b : Int))).set i ((hiveF tm G f ⟨s.ow, s.rm, mt2⟩ g).2.ow.getD i [] ++ [(b : Int)]), (hiveF tm G f ⟨s.ow, s.rm, mt2⟩ g).2.rm, (hiveF tm G f ⟨s.ow, s.rm, mt2⟩ g).2.mt⟩) else hiveJ (hiveF tm G f) b i (List.range' (g + 1) (G - (g + 1))) (hiveF tm G f ⟨s.ow, s.rm, mt2⟩ g).2) := by
                      conv => lhs; unfold hiveJ
                      rw [if_pos ⟨hbg, hgi⟩]
                    rw [hst]
                    try simp (disch := first | omega | (simp only [ints_length, List.length_replicate, List.length_set]; done) | (simp only [ints_length, List.length_replicate, List.length_set]; omega)) only [Sall,evalOp,init,binE,binI,unE,convE,okNil,builtE,gv,TD.isAgg,resV,↓reduceIte,Nat.reduceEqDiff,reduceCtorEq,Nat.reduceAdd,Nat.reduceMul,Nat.reduceLeDiff,quietOp,blindOp,Int.reduceEq,Int.reduceLT,Int.reduceLE,Nat.reduceLT,ti2,ti3,ti4,ti45,ti46,ti38,ti25,ti30,ti22,ti32,ti24,ti95,ti172,ti169,ti165,ti166,ti65,ti143,ti87, h53, h52, h51, h10, h19, h18, h17, h0, h1, h2, h3, h4, h5, e1, e2, f4, List.mem_cons, List.not_mem_nil, or_false, forall_eq_or_imp, forall_eq, Array.size_empty]
                    have hR := hiveF_res htm f ⟨s.ow, s.rm, mt2⟩ g hok2 (by omega) hun2
                    have hcall := ih ⟨s.ow, s.rm, mt2⟩ g me H2 hok2 hlen hru (by omega) hun2 hS2 hme
                    revert hR hcall
                    generalize hiveF tm G f ⟨s.ow, s.rm, mt2⟩ g = R
                    intro hR hcall
                    refine hcall.fin ?_
                    rintro H3 ⟨hS3, hn3⟩
                    obtain ⟨rb, s3'⟩ := R
                    obtain hrb | hrb : rb = true ∨ rb = false := by cases rb <;> simp
                    · subst hrb
                      obtain ⟨y1, y2, y3⟩ := hR.yes rfl
                      obtain ⟨ow3, rm3, mt3⟩ := s3'
                      have hbg3 : (b : Int) ∈ ow3.getD g [] := by
                        rw [← List.count_pos_iff]
                        have := hR.frame g b hmb2
                        dsimp only at this
                        rw [this, List.count_pos_iff]; exact hbg
                      have lol3 : ow3.length = G := hR.ok.ol
                      have len3 : (ow3.getD g []).length = (s.ow.getD g []).length + 1 := by have := y1 g; rw [if_pos rfl] at this; exact this
                      have len3i : (ow3.getD i []).length = (s.ow.getD i []).length := by have := y1 i; rw [if_neg (Ne.symm hgi)] at this; exact this
                      have lenb : 0 < (s.ow.getD g []).length := List.length_pos_of_mem hbg
                      have ler := List.length_erase_of_mem hbg3
                      clear y1 y2 y3 hR
                      clear f1 f2 f3 f4 f5 f6
                      obtain ⟨f1, f2, f3, f4, f5, f6⟩ := fx hS3
                      clear o1 x1 x2 x3 x4 x5 x6 x7 x8 hO oc1
                      obtain ⟨vs, q, hO⟩ := hS3.ow
                      have nx3 := hS3.nxt
                      have sc3 := hS3.sc
                      obtain ⟨x, lo, hi', x1, x2, x3, x4, x5, x6, x7, x8⟩ := hO.fr hS3.nxt (g := g) (show g < ow3.length by omega)
                      dsimp only at x1 x2 x7 x8
                      have o1 := hO.row
                      have lvs : vs.length = G := by rw [hO.len]; exact lol3
                      have oc1 : ∀ (ty : TypeId) (r : List Value), Go.Abs.Row.ok (Go.Abs.Row.mk ty true r) [x] = True := fun ty r => eq_true (.inl rfl)
                      try simp (disch := first | omega | (simp only [ints_length, List.length_replicate, List.length_set]; done) | (simp only [ints_length, List.length_replicate, List.length_set]; omega)) only [Sall,evalOp,init,binE,binI,unE,convE,okNil,builtE,gv,TD.isAgg,resV,↓reduceIte,Nat.reduceEqDiff,reduceCtorEq,Nat.reduceAdd,Nat.reduceMul,Nat.reduceLeDiff,quietOp,blindOp,Int.reduceEq,Int.reduceLT,Int.reduceLE,Nat.reduceLT,ti2,ti3,ti4,ti45,ti46,ti38,ti25,ti30,ti22,ti32,ti24,ti95,ti172,ti169,ti165,ti166,ti65,ti143,ti87, h53, h52, h51, h10, h19, h18, h17, h0, h1, h2, h3, h4, h5]
                      refine draw_inS (fun j => j < b0) [0, 1, 2, 3, 4, 5, 6, 7, 8, 9, 10, 12, 13, 14, 15, 16, 11, 17, 18, 19, 20, 21] (by kernel_rfl) (by kernel_rfl) (by kernel_rfl) ?_
                      try simp (disch := first | omega | (simp only [ints_length, List.length_replicate, List.length_set]; done) | (simp only [ints_length, List.length_replicate, List.length_set]; omega)) only [Sall,evalOp,init,binE,binI,unE,convE,okNil,builtE,gv,TD.isAgg,resV,↓reduceIte,Nat.reduceEqDiff,reduceCtorEq,Nat.reduceAdd,Nat.reduceMul,Nat.reduceLeDiff,quietOp,blindOp,Int.reduceEq,Int.reduceLT,Int.reduceLE,Nat.reduceLT,ti2,ti3,ti4,ti45,ti46,ti38,ti25,ti30,ti22,ti32,ti24,ti95,ti172,ti169,ti165,ti166,ti65,ti143,ti87, awpIS_nil, awpIS_cons, stepIS_op, loadOk, h4, h10, f3, o1, x1, oc1]
                      (repeat refine And.intro (by omega) ?_)
                      refine (indexI_c x (ow3.getD g []) b H3 x2.rd (by omega)).to ?_
                      rw [idx_mem hbg3]
                      have hidx := List.idxOf_lt_length_iff.2 hbg3
                      try simp (disch := first | omega | (simp only [ints_length, List.length_replicate, List.length_set]; done) | (simp only [ints_length, List.length_replicate, List.length_set]; omega)) only [Sall,evalOp,init,binE,binI,unE,convE,okNil,builtE,gv,TD.isAgg,resV,↓reduceIte,Nat.reduceEqDiff,reduceCtorEq,Nat.reduceAdd,Nat.reduceMul,Nat.reduceLeDiff,quietOp,blindOp,Int.reduceEq,Int.reduceLT,Int.reduceLE,Nat.reduceLT,ti2,ti3,ti4,ti45,ti46,ti38,ti25,ti30,ti22,ti32,ti24,ti95,ti172,ti169,ti165,ti166,ti65,ti143,ti87, awpIS_nil, awpIS_cons, stepIS_op, loadOk, h4, h10, List.mem_cons, List.not_mem_nil, or_false, forall_eq_or_imp, forall_eq, Array.size_empty]
                      refine ⟨.inr (.inr (LES.refl _ _)), ?_⟩
                      refine (indexI_c x (ow3.getD g []) b H3 x2.rd (by omega)).to ?_
                      rw [idx_mem hbg3]
                      try simp (disch := first | omega | (simp only [ints_length, List.length_replicate, List.length_set]; done) | (simp only [ints_length, List.length_replicate, List.length_set]; omega)) only [Sall,evalOp,init,binE,binI,unE,convE,okNil,builtE,gv,TD.isAgg,resV,↓reduceIte,Nat.reduceEqDiff,reduceCtorEq,Nat.reduceAdd,Nat.reduceMul,Nat.reduceLeDiff,quietOp,blindOp,Int.reduceEq,Int.reduceLT,Int.reduceLE,Nat.reduceLT,ti2,ti3,ti4,ti45,ti46,ti38,ti25,ti30,ti22,ti32,ti24,ti95,ti172,ti169,ti165,ti166,ti65,ti143,ti87, awpIS_nil, awpIS_cons, stepIS_op, loadOk, h4, h10, w64, List.mem_cons, List.not_mem_nil, or_false, forall_eq_or_imp, forall_eq, Array.size_empty]
                      refine ⟨.inr (.inr (LES.refl _ _)), ?_⟩
                      refine (delete_c x (ow3.getD g []) ((ow3.getD g []).idxOf (b : Int)) lo hi' H3 x2 (by omega) hidx).sc.mono ?_
                      rintro u H4 ⟨⟨n4, s4, f4'⟩, sc4⟩
                      rw [← List.erase_eq_eraseIdx_of_idxOf rfl] at f4'
                      refine ⟨.inr (.inr ⟨by omega, fun j r hj hr => by rw [s4 j (by omega)]; exact hr⟩), ?_⟩
                      have o4 : H4.row oi = some ⟨38, true, vs⟩ := by rw [s4 oi (by omega), o1]
                      have f4o := f4'.rd.one
                      refine Holds.mp ?_
                      try simp (disch := first | omega | (simp only [ints_length, List.length_replicate, List.length_set]; done) | (simp only [ints_length, List.length_replicate, List.length_set]; omega)) only [Sall,evalOp,init,binE,binI,unE,convE,okNil,builtE,gv,TD.isAgg,resV,↓reduceIte,Nat.reduceEqDiff,reduceCtorEq,Nat.reduceAdd,Nat.reduceMul,Nat.reduceLeDiff,quietOp,blindOp,Int.reduceEq,Int.reduceLT,Int.reduceLE,Nat.reduceLT,ti2,ti3,ti4,ti45,ti46,ti38,ti25,ti30,ti22,ti32,ti24,ti95,ti172,ti169,ti165,ti166,ti65,ti143,ti87, awpIS_nil, awpIS_cons, stepIS_op, loadOk, h4, h10, f3, o4, lvs, f4o]
                      obtain ⟨p, p1, p2, rfl, p4⟩ := f4'.get (by omega)
                      have hpq := x7 p p1 p2
                      refine ⟨by omega, by omega, .inr (.inl (by kernel_rfl)), ?_⟩
                      have K := hS3.put hO (g := g) (show g < ow3.length by omega) ⟨l1, l2, hne, hme⟩ x3 x7 x8 (by omega) (fun j j1 j2 => s4 j j2) sc4 (.inl ⟨hpq.1, hpq.2.1⟩) (by omega) (by omega) p4 (fun e => by have := congrArg List.length e; simp only [List.length_nil] at this; omega)
                      have n5 : (H4.setCells oi (vs.set g (.slice (some ⟨p, 0, some 1⟩) ((ow3.getD g []).erase (b : Int)).length ((ow3.getD g []).erase (b : Int)).length))).next = H4.next := rfl
                      revert K n5
                      generalize H4.setCells oi _ = H5
                      obtain ⟨ow5, e5⟩ : ∃ ow5, ow5 = ow3.set g ((ow3.getD g []).erase (b : Int)) := ⟨_, rfl⟩
                      dsimp only
                      rw [← e5]
                      have lol5 : ow5.length = G := by rw [e5]; simp [lol3]
                      have g5 : ow5.getD i [] = ow3.getD i [] := by rw [e5]; exact gset_ne _ _ _ _ _ hgi
                      rw [← g5]
                      rw [← g5] at len3i
                      have hli := hlen i
                      clear e5 g5
                      clear o1 x1 x2 x3 x4 x5 x6 x7 x8 hO oc1 f4' f4o o4 p4 lvs hpq
                      intro hS5 n5
                      have nx2 := hS5.nxt
                      clear f1 f2 f3 f4 f5 f6
                      obtain ⟨f1, f2, f3, f4, f5, f6⟩ := fx hS5
                      obtain ⟨vs, q, hO⟩ := hS5.ow
                      have sc2 := hS5.sc
                      obtain ⟨x, lo, hi', x1, x2, x3, x4, x5, x6, x7, x8⟩ := hO.fr hS5.nxt (g := i) (show i < ow5.length by omega)
                      dsimp only at x1 x2 x7 x8
                      have o1 := hO.row
                      have lvs : vs.length = G := by rw [hO.len]; exact lol5
                      have zz : zeros 1 [.int .i64 0] = [.int .i64 0] := rfl
                      refine draw_inS (fun j => j < b0) [0, 1, 2, 3, 4, 5, 6, 7, 8, 9, 10] (by kernel_rfl) (by kernel_rfl) (by kernel_rfl) ?_
                      have oc1 : ∀ (ty : TypeId) (r : List Value), Go.Abs.Row.ok (Go.Abs.Row.mk ty true r) [x] = True := fun ty r => eq_true (.inl rfl)
                      have ne8 : ¬ oi = H5.next := by omega
                      have ne9 : ¬ oc = H5.next := by omega
                      try simp (disch := first | omega | (simp only [ints_length, List.length_replicate, List.length_set]; done) | (simp only [ints_length, List.length_replicate, List.length_set]; omega)) only [Sall,evalOp,init,binE,binI,unE,convE,okNil,builtE,gv,TD.isAgg,resV,↓reduceIte,Nat.reduceEqDiff,reduceCtorEq,Nat.reduceAdd,Nat.reduceMul,Nat.reduceLeDiff,quietOp,blindOp,Int.reduceEq,Int.reduceLT,Int.reduceLE,Nat.reduceLT,ti2,ti3,ti4,ti45,ti46,ti38,ti25,ti30,ti22,ti32,ti24,ti95,ti172,ti169,ti165,ti166,ti65,ti143,ti87, awpIS_nil, awpIS_cons, stepIS_op, loadOk, h0, h4, h10, f3, o1, x1, zz, slCells, ne8, ne9, oc1]
                      (repeat refine And.intro (by omega) ?_)
                      refine ⟨.inr (.inr (LE.les (((Up.refl _ H5).push (Nat.le_refl _) _).le sc2))), ?_⟩
                      obtain ⟨H7, e3⟩ : ∃ H7, H7 = H5.push ⟨2, true, [.int .i64 b]⟩ := ⟨_, rfl⟩
                      have n7 : H7.next = H5.next + 1 := by rw [e3]; rfl
                      have r7 : ∀ j, j < H5.next → H7.row j = H5.row j := fun j hj => by rw [e3, AH.push_row, if_neg (by omega)]
                      have sc7 : Sc H7 := by rw [e3]; exact sc2.push _
                      rw [← e3]
                      clear e3
                      refine appE_frS (k := 1) (lo := lo) (hi := hi') (l := ow5.getD i []) (m := [(b : Int)]) (x2.same fun j _ hj => r7 j (by omega)) rfl (by omega) rfl (by omega) (by decide) (by omega) (by omega) sc7 ?_
                      intro v' H8 n8 s8 sc8 f8'
                      refine ⟨.inr (.inr ⟨by omega, fun j r hj hr => by rw [s8 j (by omega) (sc7 j r hr)]; exact hr⟩), ?_⟩
                      have o8 : H8.row oi = some ⟨38, true, vs⟩ := by rw [s8 oi (by omega) (by omega), r7 oi (by omega), o1]
                      have f8o := f8'.rd.one
                      try simp (disch := first | omega | (simp only [ints_length, List.length_replicate, List.length_set]; done) | (simp only [ints_length, List.length_replicate, List.length_set]; omega)) only [Sall,evalOp,init,binE,binI,unE,convE,okNil,builtE,gv,TD.isAgg,resV,↓reduceIte,Nat.reduceEqDiff,reduceCtorEq,Nat.reduceAdd,Nat.reduceMul,Nat.reduceLeDiff,quietOp,blindOp,Int.reduceEq,Int.reduceLT,Int.reduceLE,Nat.reduceLT,ti2,ti3,ti4,ti45,ti46,ti38,ti25,ti30,ti22,ti32,ti24,ti95,ti172,ti169,ti165,ti166,ti65,ti143,ti87, awpIS_nil, awpIS_cons, stepIS_op, loadOk, h0, h4, h10, f3, o8, lvs, f8o]
                      obtain ⟨p, p1, p2, rfl, p8⟩ := f8'.get (by omega)
                      have hpe : p = H7.next := by omega
                      subst hpe
                      refine ⟨by omega, by omega, .inr (.inl (by kernel_rfl)), ?_, by omega⟩
                      have K := hS5.put hO (g := i) (show i < ow5.length by omega) ⟨l1, l2, hne, hme⟩ x3 x7 x8 (by omega) (fun j j1 j2 => by rw [s8 j j2 (by omega), r7 j j1]) sc8 (.inr (by omega)) (by omega) (by omega) p8 (by simp)
                      rw [List.length_append] at K
                      exact K
                    · subst hrb
                      obtain ⟨n1, n2, n3, n4⟩ := hR.no rfl
                      obtain ⟨ow3, rm3, mt3⟩ := s3'
                      dsimp only at n1 n2 hS3 ⊢
                      subst n1 n2
                      have hml3 : mt3.length = n := hR.ok.ml
                      have hun3 : unm mt3 < f := Nat.lt_of_le_of_lt (unm_mono mt2 mt3 (by rw [hml2, hml3]) hR.mono) hun2
                      try simp (disch := first | omega | (simp only [ints_length, List.length_replicate, List.length_set]; done) | (simp only [ints_length, List.length_replicate, List.length_set]; omega)) only [Sall,evalOp,init,binE,binI,unE,convE,okNil,builtE,gv,TD.isAgg,resV,↓reduceIte,Nat.reduceEqDiff,reduceCtorEq,Nat.reduceAdd,Nat.reduceMul,Nat.reduceLeDiff,quietOp,blindOp,Int.reduceEq,Int.reduceLT,Int.reduceLE,Nat.reduceLT,ti2,ti3,ti4,ti45,ti46,ti38,ti25,ti30,ti22,ti32,ti24,ti95,ti172,ti169,ti165,ti166,ti65,ti143,ti87, h53, h52, h51, h10, h19, h18, h17, h0, h1, h2, h3, h4, h5, w64]
                      exact ⟨G - (g + 1), by omega, g + 1, mt3, rfl, by omega, by omega, rfl, hml3, hun3, hR.mono b hmb2, hS3, by omega⟩
                · rw [idx_not hbg]
                  have hst : hiveJ (hiveF tm G f) b i (g :: List.range' (g + 1) (G - (g + 1))) ⟨s.ow, s.rm, mt2⟩ = hiveJ (hiveF tm G f) b i (List.range' (g + 1) (G - (g + 1))) ⟨s.ow, s.rm, mt2⟩ := by
                    conv => lhs; unfold hiveJ
                    rw [if_neg (fun h => hbg h.1)]
                  rw [hst]
                  try simp (disch := first | omega | (simp only [ints_length, List.length_replicate, List.length_set]; done) | (simp only [ints_length, List.length_replicate, List.length_set]; omega)) only [Sall,evalOp,init,binE,binI,unE,convE,okNil,builtE,gv,TD.isAgg,resV,↓reduceIte,Nat.reduceEqDiff,reduceCtorEq,Nat.reduceAdd,Nat.reduceMul,Nat.reduceLeDiff,quietOp,blindOp,Int.reduceEq,Int.reduceLT,Int.reduceLE,Nat.reduceLT,ti2,ti3,ti4,ti45,ti46,ti38,ti25,ti30,ti22,ti32,ti24,ti95,ti172,ti169,ti165,ti166,ti65,ti143,ti87, h53, h52, h51, h10, h19, h18, h17, h0, h1, h2, h3, h4, h5, decide_false, w64]
                  exact ⟨G - (g + 1), by omega, g + 1, mt2, rfl, by omega, by omega, rfl, hml2, hun2, hmb2, hS2, hnx2⟩
              · have hgG : g = G := by omega
                subst hgG
                rw [Nat.sub_self]
                try simp (disch := first | omega | (simp only [ints_length, List.length_replicate, List.length_set]; done) | (simp only [ints_length, List.length_replicate, List.length_set]; omega)) only [Sall,evalOp,init,binE,binI,unE,convE,okNil,builtE,gv,TD.isAgg,resV,↓reduceIte,Nat.reduceEqDiff,reduceCtorEq,Nat.reduceAdd,Nat.reduceMul,Nat.reduceLeDiff,quietOp,blindOp,Int.reduceEq,Int.reduceLT,Int.reduceLE,Nat.reduceLT,ti2,ti3,ti4,ti45,ti46,ti38,ti25,ti30,ti22,ti32,ti24,ti95,ti172,ti169,ti165,ti166,ti65,ti143,ti87, h19, h18, h17, h0, h1, h2, h3, h4, h5, w64]
                exact ⟨2 - (k + 1), by omega, k + 1, mt2, rfl, by omega, by omega, rfl, hml2, by omega, hS2, hnx2⟩
      · have hk2 : k = 2 := by omega
        subst hk2
        try simp (disch := first | omega | (simp only [ints_length, List.length_replicate, List.length_set]; done) | (simp only [ints_length, List.length_replicate, List.length_set]; omega)) only [Sall,evalOp,init,binE,binI,unE,convE,okNil,builtE,gv,TD.isAgg,resV,↓reduceIte,Nat.reduceEqDiff,reduceCtorEq,Nat.reduceAdd,Nat.reduceMul,Nat.reduceLeDiff,quietOp,blindOp,Int.reduceEq,Int.reduceLT,Int.reduceLE,Nat.reduceLT,ti2,ti3,ti4,ti45,ti46,ti38,ti25,ti30,ti22,ti32,ti24,ti95,ti172,ti169,ti165,ti166,ti65,ti143,ti87, true_and]
        exact ⟨rfl, hS', hnx⟩
end Go.Proofs.Ytgkmdfjjlghecaa.A
end

section
set_option linter.unusedSimpArgs false
set_option linter.unusedVariables false
namespace Go.Abs
open Go Go.RowKit

def Sld (k : Nat) (v : Value) (n : Nat) : Prop := v = .slice none 0 0 ∨ (∃ i o c, v = .slice (some ⟨i, o, some k⟩) n c) ∨ ∃ i o c, v = .slice (some ⟨i, o, none⟩) n c ∧ n ≤ c

/-- A slice of n elements, k integers each, that reads l and may be cut. -/
structure Rs (k : Nat) (H : AH) (v : Value) (n : Nat) (l : List Int) : Prop where
  rd : Rd k H v n l
  sl : Sld k v n

theorem Rs.same {k n : Nat} {H H' : AH} {v : Value} {l : List Int} (h : Rs k H v n l) (hs : ∀ i r, H.row i = some r → H'.row i = some r) : Rs k H' v n l := ⟨h.rd.same hs, h.sl⟩
theorem Fr.rs {k ty lo hi n : Nat} {H : AH} {v : Value} {l : List Int} (h : Fr k ty lo hi H v n l) : Rs k H v n l := by
  refine ⟨h.rd, ?_⟩
  rcases h.2 with ⟨_, h2⟩ | ⟨i, _, _, hv, _⟩
  · exact .inl h2
  · exact .inr (.inl ⟨i, 0, n, hv⟩)

theorem Rs.cut {k n a b : Nat} {H : AH} {v : Value} {l : List Int} (h : Rs k H v n l) {lo hi : Option Int} (ha : lo.getD 0 = (a : Int)) (hb : hi.getD (n : Int) = (b : Int)) (hab : a ≤ b) (hbn : b ≤ n) :
    ∃ w, (∀ (P : Program) (E : TI) (K : Value → AH → Prop) (H' : AH), E.size = k → K w H' → runOut P H' (sliceE E v lo hi none H') K) ∧ Rs k H w (b - a) ((l.drop (a * k)).take ((b - a) * k)) := by
  obtain ⟨hl, hr⟩ := h.rd
  have hlen : ((l.drop (a * k)).take ((b - a) * k)).length = (b - a) * k := by
    rw [List.length_take, List.length_drop, hl, ← Nat.sub_mul]
    exact Nat.min_eq_left (Nat.mul_le_mul_right k (by omega))
  have hmul : a * k + (b - a) * k ≤ n * k := by rw [← Nat.add_mul]; exact Nat.mul_le_mul_right k (by omega)
  have key : ∀ (i o : Nat) (u : Option Nat) (c o' c' : Nat) (r : Row), (b - a = 0 ∨ o' = o + a * k) → H.row i = some r → o + n * k ≤ r.cells.length → seg r.cells o (n * k) = ints l →
      Rd k H (.slice (some ⟨i, o', u⟩) (b - a) c') (b - a) ((l.drop (a * k)).take ((b - a) * k)) := by
    intro i o u c o' c' r ho hrow hle hseg
    refine ⟨hlen, ?_⟩
    rcases Nat.eq_zero_or_pos (b - a) with h0 | h0
    · refine .inl ⟨h0, _, _, by rw [h0], fun h => by cases h⟩
    · obtain rfl : o' = o + a * k := by rcases ho with ho | ho <;> omega
      refine .inr ⟨i, _, u, c', r, rfl, hrow, by omega, ?_⟩
      rw [← ints_seg, ← hseg]
      apply List.ext_getElem?
      intro x
      simp only [seg, List.getElem?_take, List.getElem?_drop]
      by_cases hx : x < (b - a) * k
      · rw [if_pos hx, if_pos hx, if_pos (by omega), Nat.add_assoc]
      · rw [if_neg hx, if_neg hx]
  rcases h.sl with rfl | ⟨i, o, c, rfl⟩ | ⟨i, o, c, rfl, hc⟩
  · have hn : n = 0 := by
      rcases hr with ⟨h0, _⟩ | ⟨_, _, _, _, _, hv, _⟩
      · exact h0
      · cases hv
    subst hn
    obtain rfl : b = 0 := by omega
    obtain rfl : a = 0 := by omega
    refine ⟨.slice none 0 0, fun P E K H' hE hK => ?_, ⟨⟨hlen, .inl ⟨rfl, none, 0, rfl, fun _ => rfl⟩⟩, .inl rfl⟩⟩
    unfold sliceE
    rw [if_neg (by simp)]
    simp only [asSl_nil, runOut_need, runOut_val]
    refine ⟨⟨ha, ?_, rfl⟩, hK⟩
    cases hi with
    | none => rfl
    | some x => simpa using hb
  · refine ⟨.slice (some ⟨i, o + a * k, some k⟩) (b - a) (b - a), fun P E K H' hE hK => ?_, ⟨?_, .inr (.inl ⟨i, _, _, rfl⟩)⟩⟩
    · unfold sliceE
      rw [if_neg (by simp)]
      simp only [asSl_some, runOut_need, runOut_val, ha, hb, Int.toNat_natCast, hE]
      exact ⟨⟨by omega, by omega, by omega, trivial⟩, hK⟩
    · rcases hr with ⟨h0, a', c', hv, _⟩ | ⟨i', o', u', c', r, hv, hrow, hle, hseg⟩
      · obtain rfl : b = 0 := by omega
        obtain rfl : a = 0 := by omega
        exact ⟨hlen, .inl ⟨rfl, _, _, rfl, fun h => by cases h⟩⟩
      · simp only [Value.slice.injEq, Option.some.injEq, Addr.mk.injEq] at hv
        obtain ⟨⟨rfl, rfl, rfl⟩, _, rfl⟩ := hv
        exact key i o (some k) c _ _ r (.inr rfl) hrow hle hseg
  · refine ⟨.slice (some ⟨i, if (c : Int) = (a : Int) then o else o + a * k, none⟩) (b - a) (c - a), fun P E K H' hE hK => ?_, ⟨?_, .inr (.inr ⟨i, _, _, rfl, by omega⟩)⟩⟩
    · unfold sliceE
      rw [if_neg (by simp)]
      have e0 : ((none : Option Int).getD (c : Int)) = (c : Int) := rfl
      simp only [asSl_some, runOut_need, runOut_val, ha, hb, e0, Int.toNat_natCast, hE]
      exact ⟨⟨by omega, by omega, by omega, Int.le_refl _⟩, hK⟩
    · rcases hr with ⟨h0, a', c', hv, _⟩ | ⟨i', o', u', c', r, hv, hrow, hle, hseg⟩
      · obtain rfl : b = 0 := by omega
        obtain rfl : a = 0 := by omega
        exact ⟨hlen, .inl ⟨rfl, _, _, rfl, fun h => by cases h⟩⟩
      · simp only [Value.slice.injEq, Option.some.injEq, Addr.mk.injEq] at hv
        obtain ⟨⟨rfl, rfl, rfl⟩, _, rfl⟩ := hv
        refine key i o none c _ _ r ?_ hrow hle hseg
        split
        · left; omega
        · right; rfl
end Go.Abs
end

section
set_option linter.unusedSimpArgs false
set_option linter.unusedVariables false
set_option maxRecDepth 100000
set_option maxHeartbeats 2000000
namespace Go.Proofs.Ytgkmdfjjlghecaa.A
open Go Go.Abs Go.RowKit

/-- What holds between two points given. -/
def WI (n G a : Nat) (ow : List (List Int)) (rm : List Int) : Prop :=
  (∀ mt : List Bool, mt.length = n → HOk n G ⟨ow, rm, mt⟩) ∧ (∀ g, g < G → (ow.getD g []).length = a - 2 * g - (a - 2 * g - 2)) ∧ ∀ c, rm.getD c 0 ≤ 4294967296
theorem unm_none (n : Nat) : unm (List.replicate n false) < n + 1 := by
  unfold unm; rw [List.count_replicate]; simp
theorem WI.few {n G a : Nat} {ow : List (List Int)} {rm : List Int} (h : WI n G a ow rm) (g : Nat) : (ow.getD g []).length ≤ 2 := by
  by_cases hg : g < G
  · rw [h.2.1 g hg]; omega
  · have := (h.1 (List.replicate n false) (by simp)).ol
    dsimp only at this
    rw [getD_nil_of_le (by omega)]; simp
theorem WI.step {n G a : Nat} {tm : Nat → Nat → Nat} {ow : List (List Int)} {rm : List Int} (htm : ∀ j k, tm j k < n) (h : WI n G a ow rm) (ha : a < 2 * G) (hr : (hiveF tm G (n + 1) ⟨ow, rm, List.replicate n false⟩ (a / 2)).1 = true) :
    WI n G (a + 1) (hiveF tm G (n + 1) ⟨ow, rm, List.replicate n false⟩ (a / 2)).2.ow (hiveF tm G (n + 1) ⟨ow, rm, List.replicate n false⟩ (a / 2)).2.rm := by
  have hok := h.1 (List.replicate n false) (by simp)
  have hR := hiveF_res htm (n + 1) ⟨ow, rm, List.replicate n false⟩ (a / 2) hok (by omega) (unm_none n)
  revert hR hr
  generalize hiveF tm G (n + 1) ⟨ow, rm, List.replicate n false⟩ (a / 2) = R
  intro hr hR
  obtain ⟨y1, y2, y3⟩ := hR.yes hr
  refine ⟨fun mt hmt => ⟨hR.ok.ol, hR.ok.rl, hmt, hR.ok.er, hR.ok.rr⟩, fun g hg => ?_, fun c => ?_⟩
  · have h1 : (R.2.ow.getD g []).length = (ow.getD g []).length + if g = a / 2 then 1 else 0 := y1 g
    rw [h1, h.2.1 g hg]
    split <;> omega
  · have h1 : R.2.rm.getD c 0 ≤ rm.getD c 0 := hR.dec c
    have := h.2.2 c
    omega

theorem canBeFirst_c (n : Nat) (v : Value) (k : Nat) (l : List Int) (x : Value) (ll : List (List Int)) (a : Int) (H : AH) (hb : schedB n k l = true) (hres : resB n k l ll = true) (hl : ll.length ≤ 4294967296) (hv : Rs 14 H v k l) (hx : Rd2 1 H x ll) (ha : 0 ≤ a ∧ a < n) :
    ACalls Try.prog 90 [.agg #[.int .i64 n, v], x, .int .i64 a] H (is (.bool (firstB n k l ll a)) H) := by
  refine acalls_up rfl (ACalls.wf (by kernel_rfl) fun hs => acalls_of_awp [.tmp 6] Try.func90 (by kernel_rfl) rfl rfl (Nat.le_of_ble_eq_true rfl) (by kernel_rfl) ?_)
  obtain ⟨hn, hk40, hrounds⟩ := schedB_at hb
  obtain ⟨hlk, hrs⟩ := resB_at hres
  have hone := hv.rd.one
  have up : Up H.next H (H.push ⟨32, true, [.int .i64 n, v]⟩) := (Up.refl _ H).push (Nat.le_refl _) _
  have e1 : (H.push ⟨32, true, [.int .i64 n, v]⟩).row H.next = some ⟨32, true, [.int .i64 n, v]⟩ := by rw [AH.push_row, if_pos rfl]
  have n1 : (H.push ⟨32, true, [.int .i64 n, v]⟩).next = H.next + 1 := rfl
  have sc1 : Sc (H.push ⟨32, true, [.int .i64 n, v]⟩) := Sc.push hs _
  try simp (disch := first | omega | (simp only [ints_length, List.length_replicate, List.length_set]; done) | (simp only [ints_length, List.length_replicate, List.length_set]; omega)) only [Sall,evalOp,init,binE,binI,unE,convE,okNil,builtE,gv,TD.isAgg,resV,↓reduceIte,Nat.reduceEqDiff,reduceCtorEq,Nat.reduceAdd,Nat.reduceMul,Nat.reduceLeDiff,quietOp,blindOp,Int.reduceEq,Int.reduceLT,Int.reduceLE,Nat.reduceLT,ti2,ti3,ti4,ti45,ti46,ti38,ti25,ti30,ti22,ti32,ti24,ti95,ti172,ti169,ti165,ti166,ti65,ti143,ti87, hone]
  revert up e1 n1 sc1
  generalize H.push ⟨32, true, [.int .i64 n, v]⟩ = H1
  intro up e1 n1 sc1
  have hv1 := hv.rd.same (up.le hs).row
  have hx1 := hx.same (up.le hs).row
  try simp (disch := first | omega | (simp only [ints_length, List.length_replicate, List.length_set]; done) | (simp only [ints_length, List.length_replicate, List.length_set]; omega)) only [Sall,evalOp,init,binE,binI,unE,convE,okNil,builtE,gv,TD.isAgg,resV,↓reduceIte,Nat.reduceEqDiff,reduceCtorEq,Nat.reduceAdd,Nat.reduceMul,Nat.reduceLeDiff,quietOp,blindOp,Int.reduceEq,Int.reduceLT,Int.reduceLE,Nat.reduceLT,ti2,ti3,ti4,ti45,ti46,ti38,ti25,ti30,ti22,ti32,ti24,ti95,ti172,ti169,ti165,ti166,ti65,ti143,ti87, e1]
  refine (points_c n v k l x ll H1 hb hres hl hv1 hx1).sc.mono ?_
  rintro pu H2 ⟨⟨up2, hf⟩, sc2⟩
  have n2 := up2.next
  refine Holds.mp ?_
  obtain ⟨pi, pi0, pi1, rfl, pir⟩ := hf.get (by omega)
  have b2 : H2.row H.next = some ⟨32, true, [.int .i64 n, v]⟩ := by rw [up2.row _ (by omega), e1]
  have neA : ¬ H.next = H2.next + 1 := by omega
  have neB : ¬ H.next = H2.next := by omega
  obtain ⟨w, hw1, hw3⟩ := hv.cut (lo := some (ll.length : Int)) (hi := none) (a := ll.length) (b := k) rfl rfl hlk (Nat.le_refl _)
  have hw2 := hw3.rd.len
  have hw4 := hw3.rd.one
  have hv := hv.rd
  have hxl := hx1.len
  try simp (disch := first | omega | (simp only [ints_length, List.length_replicate, List.length_set]; done) | (simp only [ints_length, List.length_replicate, List.length_set]; omega)) only [Sall,evalOp,init,binE,binI,unE,convE,okNil,builtE,gv,TD.isAgg,resV,↓reduceIte,Nat.reduceEqDiff,reduceCtorEq,Nat.reduceAdd,Nat.reduceMul,Nat.reduceLeDiff,quietOp,blindOp,Int.reduceEq,Int.reduceLT,Int.reduceLE,Nat.reduceLT,ti2,ti3,ti4,ti45,ti46,ti38,ti25,ti30,ti22,ti32,ti24,ti95,ti172,ti169,ti165,ti166,ti65,ti143,ti87, zeros_zero, neA, neB, b2, builtE, hxl]
  obtain ⟨H3, e3⟩ : ∃ H3, H3 = ((H2.push ⟨38, true, []⟩).push ⟨25, true, [.slice none 0 0]⟩).setCells (H2.next + 1) [.slice (some ⟨H2.next, 0, some 1⟩) 0 0] := ⟨_, rfl⟩
  have n3 : H3.next = H2.next + 2 := by rw [e3]; rfl
  have r3 : ∀ j, j < H2.next → H3.row j = H2.row j := fun j hj => by rw [e3, AH.setCells_row, if_neg (by omega), AH.push_row, if_neg (by rw [AH.push_next]; omega), AH.push_row, if_neg (by omega)]
  have sc3 : Sc H3 := by rw [e3]; exact ((sc2.push _).push _).set _ _
  have c3 : H3.row (H2.next + 1) = some ⟨25, true, [.slice (some ⟨H2.next, 0, some 1⟩) 0 0]⟩ := by rw [e3, AH.setCells_row, if_pos rfl, AH.push_row, if_pos (by rw [AH.push_next])]; rfl
  have g3 : Gms (pi + 1) H2.next H3 (gmN n l a (sumsF n (fun _ o => o) (meets n l ll ll.length), []) ll.length 0).2 [] := ⟨by rw [e3, AH.setCells_row, if_neg (by omega), AH.push_row, if_neg (by rw [AH.push_next]; omega), AH.push_row, if_pos rfl], by omega, rfl, fun j hj => absurd hj (Nat.not_lt_zero _)⟩
  have up3 : Up H.next H H3 := ⟨by have := up.next; omega, fun j hj => by rw [r3 j (by omega), up2.row j (by omega), up.row j hj]⟩
  rw [← e3]
  clear e3
  have p3 : H3.row pi = some ⟨2, true, ints (gmN n l a (sumsF n (fun _ o => o) (meets n l ll ll.length), []) ll.length 0).1⟩ := by rw [r3 _ (by omega), pir]; rfl
  have b3 : H3.row H.next = some ⟨32, true, [.int .i64 n, v]⟩ := by rw [r3 _ (by omega), b2]
  have hgm := gmL_ok (a := a) hb hlk
  have gm0 := gm0_ok (n := n) (by omega) (l := l) (ll := ll) (by omega)
  rw [firstB_other hb hlk]
  unfold gmL at hgm ⊢
  have hz : (gmN n l a (sumsF n (fun _ o => o) (meets n l ll ll.length), []) ll.length 0).2.length = 0 := rfl
  revert p3; revert gm0; revert g3; revert hz
  generalize (sumsF n (fun _ o => o) (meets n l ll ll.length), ([] : List (List Int))) = st0 at hgm ⊢
  intro hz g3 gm0 p3
  have hgo : ∀ c, ll.length + c ≤ k → GmOk n (2240 + 28 * c) (gmN n l a st0 ll.length c) := fun c hc => gmN_ok (by omega) gm0 c (fun i hi => hrounds i (by omega)) (by omega)
  refine hw1 _ _ _ _ rfl ?_
  try simp (disch := first | omega | (simp only [ints_length, List.length_replicate, List.length_set]; done) | (simp only [ints_length, List.length_replicate, List.length_set]; omega)) only [Sall,evalOp,init,binE,binI,unE,convE,okNil,builtE,gv,TD.isAgg,resV,↓reduceIte,Nat.reduceEqDiff,reduceCtorEq,Nat.reduceAdd,Nat.reduceMul,Nat.reduceLeDiff,quietOp,blindOp,Int.reduceEq,Int.reduceLT,Int.reduceLE,Nat.reduceLT,ti2,ti3,ti4,ti45,ti46,ti38,ti25,ti30,ti22,ti32,ti24,ti95,ti172,ti169,ti165,ti166,ti65,ti143,ti87, builtE, hw2]
  refine awp_loop (fun m t H' => ∃ (c gi : Nat) (vs : List Value), m = (k - ll.length) - c ∧ c ≤ k - ll.length ∧ t 29 = .int .i64 c ∧ t 28 = .int .i64 (k - ll.length : Nat) ∧ t 27 = w ∧ t 7 = .slice (some ⟨pi, 0, some 1⟩) n n ∧ t 8 = .pointer (some ⟨H2.next + 1, 0, none⟩) ∧ t 2 = .int .i64 a ∧ t 3 = .pointer (some ⟨H.next, 0, none⟩) ∧ Up H.next H H' ∧ H'.row H.next = some ⟨32, true, [.int .i64 n, v]⟩ ∧
      H'.row (H2.next + 1) = some ⟨25, true, [.slice (some ⟨gi, 0, some 1⟩) (gmN n l a st0 ll.length c).2.length (gmN n l a st0 ll.length c).2.length]⟩ ∧ H'.row pi = some ⟨2, true, ints (gmN n l a st0 ll.length c).1⟩ ∧ Gms (pi + 1) gi H' (gmN n l a st0 ll.length c).2 vs ∧ Sc H' ∧ gi ≠ H2.next + 1) (k - ll.length) ?_ ?_
  · refine ⟨0, H2.next, [], by omega, by omega, ?_⟩
    try simp (disch := first | omega | (simp only [ints_length, List.length_replicate, List.length_set]; done) | (simp only [ints_length, List.length_replicate, List.length_set]; omega)) only [Sall,evalOp,init,binE,binI,unE,convE,okNil,builtE,gv,TD.isAgg,resV,↓reduceIte,Nat.reduceEqDiff,reduceCtorEq,Nat.reduceAdd,Nat.reduceMul,Nat.reduceLeDiff,quietOp,blindOp,Int.reduceEq,Int.reduceLT,Int.reduceLE,Nat.reduceLT,ti2,ti3,ti4,ti45,ti46,ti38,ti25,ti30,ti22,ti32,ti24,ti95,ti172,ti169,ti165,ti166,ti65,ti143,ti87, Int.natCast_zero]
    rw [hz]
    exact ⟨up3, b3, c3, p3, g3, sc3⟩
  · rintro m t H' ⟨c, gi, vs, hm, hck, h29, h28, h27, h7, h8, h2, h3, hup, hr1, hc1, hr2, hG, hsc, hgne⟩
    try simp (disch := first | omega | (simp only [ints_length, List.length_replicate, List.length_set]; done) | (simp only [ints_length, List.length_replicate, List.length_set]; omega)) only [Sall,evalOp,init,binE,binI,unE,convE,okNil,builtE,gv,TD.isAgg,resV,↓reduceIte,Nat.reduceEqDiff,reduceCtorEq,Nat.reduceAdd,Nat.reduceMul,Nat.reduceLeDiff,quietOp,blindOp,Int.reduceEq,Int.reduceLT,Int.reduceLE,Nat.reduceLT,ti2,ti3,ti4,ti45,ti46,ti38,ti25,ti30,ti22,ti32,ti24,ti95,ti172,ti169,ti165,ti166,ti65,ti143,ti87, h29, h28]
    refine condC_dec (fun h => ?_) (fun h => ?_)
    · obtain ⟨i', o', u', c', r', hwi, hrB, hc', hs', hg'⟩ := hw3.rd.get (by omega)
      have hr' : H'.row i' = some r' := by rw [hup.row _ (hs _ _ hrB), hrB]
      have hrl : (rnd l (ll.length + c)).length = 14 := rnd_length l (ll.length + c) k hv.1 (by omega)
      have hll := hv.1
      have hseg : seg r'.cells (o' + c * 14) 14 = ints (rnd l (ll.length + c)) := by
        rw [hg' (c * 14) 14 (by omega)]
        unfold rnd
        rw [List.drop_take, List.take_take, List.drop_drop, ← Nat.add_mul, Nat.min_eq_left (by omega)]
      have hHn := hsc _ _ hr1
      have hpn := hsc _ _ hr2
      have hcn := hsc _ _ hc1
      have hlh := hup.next
      have neC : ¬ H.next = H'.next := by omega
      try simp (disch := first | omega | (simp only [ints_length, List.length_replicate, List.length_set]; done) | (simp only [ints_length, List.length_replicate, List.length_set]; omega)) only [Sall,evalOp,init,binE,binI,unE,convE,okNil,builtE,gv,TD.isAgg,resV,↓reduceIte,Nat.reduceEqDiff,reduceCtorEq,Nat.reduceAdd,Nat.reduceMul,Nat.reduceLeDiff,quietOp,blindOp,Int.reduceEq,Int.reduceLT,Int.reduceLE,Nat.reduceLT,ti2,ti3,ti4,ti45,ti46,ti38,ti25,ti30,ti22,ti32,ti24,ti95,ti172,ti169,ti165,ti166,ti65,ti143,ti87, h29, h27, hwi, hr', hseg, h3, hr1, neC, hrl]
      (repeat refine And.intro (by omega) ?_)
      obtain ⟨H0, e0⟩ : ∃ H0, H0 = (H'.push ⟨46, true, ints (List.replicate 14 0)⟩).setCells H'.next (ints (rnd l (ll.length + c))) := ⟨_, rfl⟩
      have n0 : H0.next = H'.next + 1 := by rw [e0]; rfl
      have r0 : ∀ j, j < H'.next → H0.row j = H'.row j := fun j hj => by rw [e0, AH.setCells_row, if_neg (by omega), AH.push_row, if_neg (by omega)]
      have sc0 : Sc H0 := by rw [e0]; exact (hsc.push _).set _ _
      rw [← e0]
      clear e0
      refine (pairs_c n (rnd l (ll.length + c)) hrl (by omega) H0).sc.mono ?_
      rintro p H4 ⟨⟨up4, hp⟩, sc4⟩
      have hpl := hp.rd.len
      have n4 := up4.next
      have k4 : ∀ j, j < H'.next → H4.row j = H'.row j := fun j hj => by rw [up4.row j (by omega), r0 j hj]
      have hr3 : H4.row H.next = some ⟨32, true, [.int .i64 n, v]⟩ := by rw [k4 _ (by omega), hr1]
      have hr4 : H4.row pi = some ⟨2, true, ints (gmN n l a st0 ll.length c).1⟩ := by rw [k4 _ hpn, hr2]
      have hc4 : H4.row (H2.next + 1) = some ⟨25, true, [.slice (some ⟨gi, 0, some 1⟩) (gmN n l a st0 ll.length c).2.length (gmN n l a st0 ll.length c).2.length]⟩ := by rw [k4 _ hcn, hc1]
      have hG4 := hG.keep (H' := H4) fun j r _ hr => by rw [k4 _ (hsc _ _ hr), hr]
      have hgiH := hsc _ _ hG.row
      have hplen := pairsL_le (rnd l (ll.length + c)) n
      have hround := hrounds (ll.length + c) (by omega)
      have hgc := hgo c (by omega)
      have hgs : gmN n l a st0 ll.length (c + 1) = gmB n l a (gmN n l a st0 ll.length c) (ll.length + c) (pairsL (rnd l (ll.length + c)) n).length := rfl
      have hbo : ∀ b, b ≤ (pairsL (rnd l (ll.length + c)) n).length → GmOk n (2240 + 28 * c + 2 * b) (gmB n l a (gmN n l a st0 ll.length c) (ll.length + c) b) := fun b hb2 => gmB_ok hgc hround b hb2 (by omega)
      have hb0 := gmB_zero n l a (gmN n l a st0 ll.length c) (ll.length + c)
      rw [← hb0] at hr4 hG4 hc4
      have hsuc := fun b hb2 => gmB_succ n l a (gmN n l a st0 ll.length c) (ll.length + c) b hb2
      clear hgc hb0 hG hr2 hc1
      revert hr4 hc4 hG4 hgs hbo hsuc
      generalize gmB n l a (gmN n l a st0 ll.length c) (ll.length + c) = gb
      intro hr4 hc4 hG4 hgs hbo hsuc
      refine Holds.mp ?_
      try simp (disch := first | omega | (simp only [ints_length, List.length_replicate, List.length_set]; done) | (simp only [ints_length, List.length_replicate, List.length_set]; omega)) only [Sall,evalOp,init,binE,binI,unE,convE,okNil,builtE,gv,TD.isAgg,resV,↓reduceIte,Nat.reduceEqDiff,reduceCtorEq,Nat.reduceAdd,Nat.reduceMul,Nat.reduceLeDiff,quietOp,blindOp,Int.reduceEq,Int.reduceLT,Int.reduceLE,Nat.reduceLT,ti2,ti3,ti4,ti45,ti46,ti38,ti25,ti30,ti22,ti32,ti24,ti95,ti172,ti169,ti165,ti166,ti65,ti143,ti87, h29, h28, h27, h7, h8, h2, h3, builtE, hpl]
      refine awp_loop (fun z t H5 => ∃ (b gi : Nat) (vs : List Value), z = (pairsL (rnd l (ll.length + c)) n).length - b ∧ b ≤ (pairsL (rnd l (ll.length + c)) n).length ∧ t 38 = .int .i64 b ∧ t 37 = .int .i64 (pairsL (rnd l (ll.length + c)) n).length ∧ t 36 = p ∧ t 29 = .int .i64 c ∧ t 28 = .int .i64 (k - ll.length : Nat) ∧ t 27 = w ∧ t 7 = .slice (some ⟨pi, 0, some 1⟩) n n ∧ t 8 = .pointer (some ⟨H2.next + 1, 0, none⟩) ∧ t 2 = .int .i64 a ∧ t 3 = .pointer (some ⟨H.next, 0, none⟩) ∧ Up H.next H H5 ∧ H4.next ≤ H5.next ∧ H5.row H.next = some ⟨32, true, [.int .i64 n, v]⟩ ∧
          H5.row (H2.next + 1) = some ⟨25, true, [.slice (some ⟨gi, 0, some 1⟩) (gb b).2.length (gb b).2.length]⟩ ∧ Fr2 1 38 2 H0.next H4.next H5 p (pairsL (rnd l (ll.length + c)) n) ∧ H5.row pi = some ⟨2, true, ints (gb b).1⟩ ∧ Gms (pi + 1) gi H5 (gb b).2 vs ∧ Sc H5 ∧ (gi < H0.next ∨ H4.next ≤ gi) ∧ gi ≠ H2.next + 1) (pairsL (rnd l (ll.length + c)) n).length ?_ ?_
      · refine ⟨0, gi, vs, by omega, by omega, ?_⟩
        try simp (disch := first | omega | (simp only [ints_length, List.length_replicate, List.length_set]; done) | (simp only [ints_length, List.length_replicate, List.length_set]; omega)) only [Sall,evalOp,init,binE,binI,unE,convE,okNil,builtE,gv,TD.isAgg,resV,↓reduceIte,Nat.reduceEqDiff,reduceCtorEq,Nat.reduceAdd,Nat.reduceMul,Nat.reduceLeDiff,quietOp,blindOp,Int.reduceEq,Int.reduceLT,Int.reduceLE,Nat.reduceLT,ti2,ti3,ti4,ti45,ti46,ti38,ti25,ti30,ti22,ti32,ti24,ti95,ti172,ti169,ti165,ti166,ti65,ti143,ti87, Int.natCast_zero, h29, h28, h27, h7, h8, h2, h3]
        exact ⟨⟨by omega, fun j hj => by rw [k4 j (by omega), hup.row j hj]⟩, hr3, hc4, hp, hr4, hG4, sc4, .inl (by omega), hgne⟩
      · rintro z t H5 ⟨b, gi', vs', hzz, hbp, h38, h37, h36, h29, h28, h27, h7, h8, h2, h3, hup5, hn5, hr5, hc5, hp5, hpi5, hG5, sc5, hgi5, hgn5⟩
        try simp (disch := first | omega | (simp only [ints_length, List.length_replicate, List.length_set]; done) | (simp only [ints_length, List.length_replicate, List.length_set]; omega)) only [Sall,evalOp,init,binE,binI,unE,convE,okNil,builtE,gv,TD.isAgg,resV,↓reduceIte,Nat.reduceEqDiff,reduceCtorEq,Nat.reduceAdd,Nat.reduceMul,Nat.reduceLeDiff,quietOp,blindOp,Int.reduceEq,Int.reduceLT,Int.reduceLE,Nat.reduceLT,ti2,ti3,ti4,ti45,ti46,ti38,ti25,ti30,ti22,ti32,ti24,ti95,ti172,ti169,ti165,ti166,ti65,ti143,ti87, h38, h37]
        refine condC_dec (fun hh => ?_) (fun hh => ?_)
        · obtain ⟨qi, pvs, px, pm, pb, pc, rfl, q1, q2, q3, q4, q5, q6, q7, q8⟩ := hp5.getF (j := b) (by omega)
          have hpm := q8.lenK1
          obtain ⟨aa, ha1, ha2, ha3⟩ := pairsL_get (rnd l (ll.length + c)) n b (by omega)
          obtain ⟨_, ha4, ha5, _⟩ := roundB_at hround (a := aa) (by omega)
          have hs1' := hsuc b (by omega)
          rw [ha3] at q8 hpm hs1'
          simp only [List.length_cons, List.length_nil] at hpm
          obtain rfl : pm = 2 := hpm
          obtain ⟨i6, w1, w2, rfl, w3⟩ := q8.get (by omega)
          obtain ⟨bb, hbb⟩ : ∃ bb, bb = (rnd l (ll.length + c)).getD aa 0 := ⟨_, rfl⟩
          rw [← hbb] at w3 hs1' ha4 ha5
          have i0 : (ints [(aa : Int), bb])[Int.toNat 0]? = some (.int .i64 aa) := rfl
          have i1 : (ints [(aa : Int), bb])[Int.toNat 1]? = some (.int .i64 bb) := rfl
          have hbo5 := hbo b (by omega)
          have hbl := hbo5.len
          have hgl5 := hG5.len
          have sg : gstep a (gb b) [(aa : Int), bb] = if (aa : Int) = a ∨ bb = a then (addAt (gb b).1 a 2, (gb b).2) else ((gb b).1, (gb b).2 ++ [[(aa : Int), bb]]) := rfl
          rw [sg] at hs1'
          have hHn5 := sc5 _ _ hr5
          have hpi6 := sc5 _ _ hpi5
          have hcn5 := sc5 _ _ hc5
          have ne0 : ¬ H.next = pi := by omega
          have ne00 : ¬ H2.next + 1 = pi := by omega
          by_cases c0 : (aa : Int) = a
          · have e0 : ((aa : Int) == a) = true := by rw [c0]; exact beq_self_eq_true _
            rw [if_pos (.inl c0)] at hs1'
            try simp (disch := first | omega | (simp only [ints_length, List.length_replicate, List.length_set]; done) | (simp only [ints_length, List.length_replicate, List.length_set]; omega)) only [Sall,evalOp,init,binE,binI,unE,convE,okNil,builtE,gv,TD.isAgg,resV,↓reduceIte,Nat.reduceEqDiff,reduceCtorEq,Nat.reduceAdd,Nat.reduceMul,Nat.reduceLeDiff,quietOp,blindOp,Int.reduceEq,Int.reduceLT,Int.reduceLE,Nat.reduceLT,ti2,ti3,ti4,ti45,ti46,ti38,ti25,ti30,ti22,ti32,ti24,ti95,ti172,ti169,ti165,ti166,ti65,ti143,ti87, h38, h37, h36, h29, h28, h27, h7, h8, h2, h3, q3, q5, w3, i0, i1, e0, hpi5, ints_get?, ints_set, hbl, ne0, ne00, w64]
            (repeat refine And.intro (by omega) ?_)
            refine ⟨(pairsL (rnd l (ll.length + c)) n).length - (b + 1), by omega, b + 1, gi', vs', rfl, by omega, by omega, hup5.set (by omega) _, hn5, hr5, by rw [hs1']; exact hc5, hp5.same fun j j1 j2 => by rw [AH.setCells_row, if_neg (by omega)], ?_, ?_, sc5.set _ _, hgi5, hgn5⟩
            · rw [hs1']; rfl
            · rw [hs1']; exact hG5.keep fun j r j1 hr => by rw [AH.setCells_row, if_neg (by omega)]; exact hr
          · have e0 : ((aa : Int) == a) = false := beq_eq_false_iff_ne.2 c0
            by_cases c1 : bb = a
            · have e2 : (bb == a) = true := by rw [c1]; exact beq_self_eq_true _
              rw [if_pos (.inr c1)] at hs1'
              try simp (disch := first | omega | (simp only [ints_length, List.length_replicate, List.length_set]; done) | (simp only [ints_length, List.length_replicate, List.length_set]; omega)) only [Sall,evalOp,init,binE,binI,unE,convE,okNil,builtE,gv,TD.isAgg,resV,↓reduceIte,Nat.reduceEqDiff,reduceCtorEq,Nat.reduceAdd,Nat.reduceMul,Nat.reduceLeDiff,quietOp,blindOp,Int.reduceEq,Int.reduceLT,Int.reduceLE,Nat.reduceLT,ti2,ti3,ti4,ti45,ti46,ti38,ti25,ti30,ti22,ti32,ti24,ti95,ti172,ti169,ti165,ti166,ti65,ti143,ti87, h38, h37, h36, h29, h28, h27, h7, h8, h2, h3, q3, q5, w3, i0, i1, e0, e2, hpi5, ints_get?, ints_set, hbl, ne0, ne00, w64]
              (repeat refine And.intro (by omega) ?_)
              refine ⟨(pairsL (rnd l (ll.length + c)) n).length - (b + 1), by omega, b + 1, gi', vs', rfl, by omega, by omega, hup5.set (by omega) _, hn5, hr5, by rw [hs1']; exact hc5, hp5.same fun j j1 j2 => by rw [AH.setCells_row, if_neg (by omega)], ?_, ?_, sc5.set _ _, hgi5, hgn5⟩
              · rw [hs1']; rfl
              · rw [hs1']; exact hG5.keep fun j r j1 hr => by rw [AH.setCells_row, if_neg (by omega)]; exact hr
            · have e2 : (bb == a) = false := beq_eq_false_iff_ne.2 c1
              rw [if_neg (fun h => h.elim c0 c1)] at hs1'
              have zz : zeros 1 [.slice none 0 0] = [.slice none 0 0] := rfl
              have ne1 : ¬ H2.next + 1 = H5.next := by omega
              try simp (disch := first | omega | (simp only [ints_length, List.length_replicate, List.length_set]; done) | (simp only [ints_length, List.length_replicate, List.length_set]; omega)) only [Sall,evalOp,init,binE,binI,unE,convE,okNil,builtE,gv,TD.isAgg,resV,↓reduceIte,Nat.reduceEqDiff,reduceCtorEq,Nat.reduceAdd,Nat.reduceMul,Nat.reduceLeDiff,quietOp,blindOp,Int.reduceEq,Int.reduceLT,Int.reduceLE,Nat.reduceLT,ti2,ti3,ti4,ti45,ti46,ti38,ti25,ti30,ti22,ti32,ti24,ti95,ti172,ti169,ti165,ti166,ti65,ti143,ti87, h38, h37, h36, h29, h28, h27, h7, h8, h2, h3, q3, q5, w3, i0, i1, e0, e2, hc5, zz, slCells]
              (repeat refine And.intro (by omega) ?_)
              obtain ⟨H6, e6⟩ : ∃ H6, H6 = H5.push ⟨38, true, [.slice (some ⟨i6, 0, some 1⟩) 2 2]⟩ := ⟨_, rfl⟩
              have n6 : H6.next = H5.next + 1 := by rw [e6]; rfl
              have r6 : ∀ j, j < H5.next → H6.row j = H5.row j := fun j hj => by rw [e6, AH.push_row, if_neg (by omega)]
              have sc6 : Sc H6 := by rw [e6]; exact sc5.push _
              rw [← e6]
              clear e6
              have hi6 := sc5 _ _ w3
              have few := (hbo b (by omega)).few
              refine appE_gms (hG5.keep (H' := H6) fun j r _ hr => by rw [r6 _ (sc5 _ _ hr)]; exact hr) sc6 rfl (by decide) (by omega) (ys := [[(aa : Int), bb]]) rfl rfl (by omega) (fun j hj => ⟨i6, by omega, ?_, ?_, ?_⟩) ?_
              · obtain rfl : j = 0 := by omega
                rfl
              · rw [r6 _ hi6, w3]
                obtain rfl : j = 0 := by omega
                rfl
              · obtain rfl : j = 0 := by omega
                rfl
              · intro H7 n7 sc7 s7 hG7
                have hgi6 := sc5 _ _ hG5.row
                have hglo := hG5.glo
                have hgne2 : ∀ j, j ≠ gi' → j < H5.next → H7.row j = H5.row j := fun j j1 j2 => by rw [s7 j (by omega) j1, r6 j j2]
                have hc7 : H7.row (H2.next + 1) = some ⟨25, true, [.slice (some ⟨gi', 0, some 1⟩) (gb b).2.length (gb b).2.length]⟩ := by rw [hgne2 _ (Ne.symm hgn5) hcn5, hc5]
                have ne2 : ¬ H.next = H2.next + 1 := by omega
                have ne3 : ¬ pi = H2.next + 1 := by omega
                try simp (disch := first | omega | (simp only [ints_length, List.length_replicate, List.length_set]; done) | (simp only [ints_length, List.length_replicate, List.length_set]; omega)) only [Sall,evalOp,init,binE,binI,unE,convE,okNil,builtE,gv,TD.isAgg,resV,↓reduceIte,Nat.reduceEqDiff,reduceCtorEq,Nat.reduceAdd,Nat.reduceMul,Nat.reduceLeDiff,quietOp,blindOp,Int.reduceEq,Int.reduceLT,Int.reduceLE,Nat.reduceLT,ti2,ti3,ti4,ti45,ti46,ti38,ti25,ti30,ti22,ti32,ti24,ti95,ti172,ti169,ti165,ti166,ti65,ti143,ti87, h38, h37, h36, h29, h28, h27, h7, h8, h2, h3, hc7, ne2, ne3, w64]
                refine ⟨(pairsL (rnd l (ll.length + c)) n).length - (b + 1), by omega, b + 1, H6.next, vs' ++ [.slice (some ⟨i6, 0, some 1⟩) 2 2], rfl, by omega, by omega, ⟨by rw [AH.setCells_next]; have := hup5.next; omega, fun j hj => by rw [AH.setCells_row, if_neg (by omega), hgne2 j (by omega) (by omega), hup5.row j hj]⟩, by omega, ?_, ?_, hp5.same fun j j1 j2 => by rw [AH.setCells_row, if_neg (by omega), hgne2 j (by omega) (by omega)], ?_, ?_, sc7.set _ _, .inr (by omega), by omega⟩
                · rw [hgne2 _ (by omega) hHn5]; exact hr5
                · rw [hs1']; simp
                · rw [hgne2 _ (by omega) hpi6, hs1']; exact hpi5
                · rw [hs1']
                  refine hG7.keepT fun j r j1 ht hr => ?_
                  rw [AH.setCells_row, if_neg (fun e => by
                    subst e
                    rw [hc7] at hr
                    cases hr
                    rcases ht with h | h <;> cases h)]
                  exact hr
        · have hbe : b = (pairsL (rnd l (ll.length + c)) n).length := by omega
          rw [hbe, ← hgs] at hc5 hpi5 hG5
          try simp (disch := first | omega | (simp only [ints_length, List.length_replicate, List.length_set]; done) | (simp only [ints_length, List.length_replicate, List.length_set]; omega)) only [Sall,evalOp,init,binE,binI,unE,convE,okNil,builtE,gv,TD.isAgg,resV,↓reduceIte,Nat.reduceEqDiff,reduceCtorEq,Nat.reduceAdd,Nat.reduceMul,Nat.reduceLeDiff,quietOp,blindOp,Int.reduceEq,Int.reduceLT,Int.reduceLE,Nat.reduceLT,ti2,ti3,ti4,ti45,ti46,ti38,ti25,ti30,ti22,ti32,ti24,ti95,ti172,ti169,ti165,ti166,ti65,ti143,ti87, h29, h28, h27, h7, h8, h2, h3, w64]
          exact ⟨k - ll.length - (c + 1), by omega, c + 1, gi', vs', rfl, by omega, by omega, hup5, hr5, hc5, hpi5, hG5, sc5, hgn5⟩
    · have hce : c = k - ll.length := by omega
      rw [hce] at hc1 hr2 hG
      obtain ⟨st, hst⟩ : ∃ st, st = gmN n l a st0 ll.length (k - ll.length) := ⟨_, rfl⟩
      rw [← hst] at hc1 hr2 hG hgm ⊢
      clear hce hgo p3 hz g3 gm0 hst
      obtain ⟨pts, gs⟩ := st
      dsimp only at hc1 hr2 hG hgm ⊢
      have hHn := hsc _ _ hr1
      have hpn := hsc _ _ hr2
      have hcn := hsc _ _ hc1
      have hln : pts.length = n := hgm.len
      have hbnd : ∀ j, 0 ≤ pts.getD j 0 ∧ pts.getD j 0 ≤ 3360 := fun j => by have := hgm.bnd j; dsimp only at this; omega
      try simp (disch := first | omega | (simp only [ints_length, List.length_replicate, List.length_set]; done) | (simp only [ints_length, List.length_replicate, List.length_set]; omega)) only [Sall,evalOp,init,binE,binI,unE,convE,okNil,builtE,gv,TD.isAgg,resV,↓reduceIte,Nat.reduceEqDiff,reduceCtorEq,Nat.reduceAdd,Nat.reduceMul,Nat.reduceLeDiff,quietOp,blindOp,Int.reduceEq,Int.reduceLT,Int.reduceLE,Nat.reduceLT,ti2,ti3,ti4,ti45,ti46,ti38,ti25,ti30,ti22,ti32,ti24,ti95,ti172,ti169,ti165,ti166,ti65,ti143,ti87, h7, h8, h2, h3, zeros_zero]
      obtain ⟨H5, e5⟩ : ∃ H5, H5 = ((H'.push ⟨2, true, []⟩).push ⟨38, true, [.slice none 0 0]⟩).setCells (H'.next + 1) [.slice (some ⟨H'.next, 0, some 1⟩) 0 0] := ⟨_, rfl⟩
      have n5 : H5.next = H'.next + 2 := by rw [e5]; rfl
      have r5 : ∀ j, j < H'.next → H5.row j = H'.row j := fun j hj => by rw [e5, AH.setCells_row, if_neg (by omega), AH.push_row, if_neg (by rw [AH.push_next]; omega), AH.push_row, if_neg (by omega)]
      have sc5 : Sc H5 := by rw [e5]; exact ((hsc.push _).push _).set _ _
      have c5 : H5.row (H'.next + 1) = some ⟨38, true, [.slice (some ⟨H'.next, 0, some 1⟩) 0 0]⟩ := by rw [e5, AH.setCells_row, if_pos rfl, AH.push_row, if_pos (by rw [AH.push_next])]; rfl
      have f5 : Fr 1 2 H'.next (H'.next + 1) H5 (.slice (some ⟨H'.next, 0, some 1⟩) 0 0) 0 (roomL 0 pts a) := ⟨rfl, .inr ⟨H'.next, Nat.le_refl _, Nat.lt_succ_self _, rfl, by rw [e5, AH.setCells_row, if_neg (by omega), AH.push_row, if_neg (by rw [AH.push_next]; omega), AH.push_row, if_pos rfl]; rfl⟩⟩
      rw [← e5]
      clear e5
      refine awp_loop (fun z t H6 => ∃ (b lo hi : Nat) (rv : Value), z = n - b ∧ b ≤ n ∧ t 69 = .int .i64 b ∧ t 68 = .int .i64 n ∧ t 67 = .slice (some ⟨pi, 0, some 1⟩) n n ∧ t 13 = .pointer (some ⟨H'.next + 1, 0, none⟩) ∧ t 7 = .slice (some ⟨pi, 0, some 1⟩) n n ∧ t 8 = .pointer (some ⟨H2.next + 1, 0, none⟩) ∧ t 2 = .int .i64 a ∧ t 3 = .pointer (some ⟨H.next, 0, none⟩) ∧
        H'.next + 2 ≤ H6.next ∧ (∀ j, j < H'.next → H6.row j = H'.row j) ∧ H6.row (H'.next + 1) = some ⟨38, true, [rv]⟩ ∧ Fr 1 2 lo hi H6 rv b (roomL b pts a) ∧ H'.next ≤ lo ∧ lo ≤ hi ∧ hi ≤ H6.next ∧ (hi ≤ H'.next + 1 ∨ H'.next + 2 ≤ lo) ∧ Sc H6 ∧ ∀ j, j < b → ¬ pts.getD a.toNat 0 < pts.getD j 0) n ?_ ?_
      · refine ⟨0, H'.next, H'.next + 1, .slice (some ⟨H'.next, 0, some 1⟩) 0 0, by omega, by omega, ?_⟩
        try simp (disch := first | omega | (simp only [ints_length, List.length_replicate, List.length_set]; done) | (simp only [ints_length, List.length_replicate, List.length_set]; omega)) only [Sall,evalOp,init,binE,binI,unE,convE,okNil,builtE,gv,TD.isAgg,resV,↓reduceIte,Nat.reduceEqDiff,reduceCtorEq,Nat.reduceAdd,Nat.reduceMul,Nat.reduceLeDiff,quietOp,blindOp,Int.reduceEq,Int.reduceLT,Int.reduceLE,Nat.reduceLT,ti2,ti3,ti4,ti45,ti46,ti38,ti25,ti30,ti22,ti32,ti24,ti95,ti172,ti169,ti165,ti166,ti65,ti143,ti87, Int.natCast_zero, h7, h8, h2, h3, f5]
        exact ⟨by omega, r5, c5, by omega, by omega, sc5, fun j hj => by omega⟩
      · rintro z t H6 ⟨b, lo, hi, rv, hz, hbn, h69, h68, h67, h13, h7, h8, h2, h3, hn6, hr6, hc6, f6, hlo, hlh, hhi, hlc, sc6, hno⟩
        have hr61 : H6.row H.next = some ⟨32, true, [.int .i64 n, v]⟩ := by rw [hr6 _ hHn, hr1]
        have hr62 : H6.row pi = some ⟨2, true, ints pts⟩ := by rw [hr6 _ hpn, hr2]
        have hr63 := hr6 _ hcn
        rw [hc1] at hr63
        try simp (disch := first | omega | (simp only [ints_length, List.length_replicate, List.length_set]; done) | (simp only [ints_length, List.length_replicate, List.length_set]; omega)) only [Sall,evalOp,init,binE,binI,unE,convE,okNil,builtE,gv,TD.isAgg,resV,↓reduceIte,Nat.reduceEqDiff,reduceCtorEq,Nat.reduceAdd,Nat.reduceMul,Nat.reduceLeDiff,quietOp,blindOp,Int.reduceEq,Int.reduceLT,Int.reduceLE,Nat.reduceLT,ti2,ti3,ti4,ti45,ti46,ti38,ti25,ti30,ti22,ti32,ti24,ti95,ti172,ti169,ti165,ti166,ti65,ti143,ti87, h69, h68]
        refine condC_dec (fun hh => ?_) (fun hh => ?_)
        · have hba := hbnd a.toNat
          have hbb := hbnd b
          have zz : zeros 1 [.int .i64 0] = [.int .i64 0] := rfl
          have gb : (ints pts)[b]? = some (.int .i64 (pts.getD b 0)) := ints_get? pts b (by omega)
          have ga : (ints pts)[a.toNat]? = some (.int .i64 (pts.getD a.toNat 0)) := ints_get? pts a.toNat (by omega)
          by_cases hov : pts.getD a.toNat 0 < pts.getD b 0
          · have eo : overB n pts a = true := List.any_eq_true.2 ⟨b, List.mem_range.2 (by omega), decide_eq_true hov⟩
            have e1 : decide (pts.getD b 0 > pts.getD a.toNat 0) = true := decide_eq_true hov
            rw [if_pos eo]
            try simp (disch := first | omega | (simp only [ints_length, List.length_replicate, List.length_set]; done) | (simp only [ints_length, List.length_replicate, List.length_set]; omega)) only [Sall,evalOp,init,binE,binI,unE,convE,okNil,builtE,gv,TD.isAgg,resV,↓reduceIte,Nat.reduceEqDiff,reduceCtorEq,Nat.reduceAdd,Nat.reduceMul,Nat.reduceLeDiff,quietOp,blindOp,Int.reduceEq,Int.reduceLT,Int.reduceLE,Nat.reduceLT,ti2,ti3,ti4,ti45,ti46,ti38,ti25,ti30,ti22,ti32,ti24,ti95,ti172,ti169,ti165,ti166,ti65,ti143,ti87, h69, h67, h7, h2, hr62, ga, gb, hln, e1, decide_true, hov]
            (repeat refine And.intro (by omega) ?_)
            try simp (disch := first | omega | (simp only [ints_length, List.length_replicate, List.length_set]; done) | (simp only [ints_length, List.length_replicate, List.length_set]; omega)) only [Sall,evalOp,init,binE,binI,unE,convE,okNil,builtE,gv,TD.isAgg,resV,↓reduceIte,Nat.reduceEqDiff,reduceCtorEq,Nat.reduceAdd,Nat.reduceMul,Nat.reduceLeDiff,quietOp,blindOp,Int.reduceEq,Int.reduceLT,Int.reduceLE,Nat.reduceLT,ti2,ti3,ti4,ti45,ti46,ti38,ti25,ti30,ti22,ti32,ti24,ti95,ti172,ti169,ti165,ti166,ti65,ti143,ti87, e1, decide_true, hov]
            exact ⟨by have := hup.next; omega, fun j hj => by rw [hr6 j (by omega), hup.row j hj]⟩
          · have e1 : decide (pts.getD b 0 > pts.getD a.toNat 0) = false := decide_eq_false hov
            try simp (disch := first | omega | (simp only [ints_length, List.length_replicate, List.length_set]; done) | (simp only [ints_length, List.length_replicate, List.length_set]; omega)) only [Sall,evalOp,init,binE,binI,unE,convE,okNil,builtE,gv,TD.isAgg,resV,↓reduceIte,Nat.reduceEqDiff,reduceCtorEq,Nat.reduceAdd,Nat.reduceMul,Nat.reduceLeDiff,quietOp,blindOp,Int.reduceEq,Int.reduceLT,Int.reduceLE,Nat.reduceLT,ti2,ti3,ti4,ti45,ti46,ti38,ti25,ti30,ti22,ti32,ti24,ti95,ti172,ti169,ti165,ti166,ti65,ti143,ti87, h69, h67, h7, h2, hr62, ga, gb, hln, e1]
            (repeat refine And.intro (by omega) ?_)
            try simp (disch := first | omega | (simp only [ints_length, List.length_replicate, List.length_set]; done) | (simp only [ints_length, List.length_replicate, List.length_set]; omega)) only [Sall,evalOp,init,binE,binI,unE,convE,okNil,builtE,gv,TD.isAgg,resV,↓reduceIte,Nat.reduceEqDiff,reduceCtorEq,Nat.reduceAdd,Nat.reduceMul,Nat.reduceLeDiff,quietOp,blindOp,Int.reduceEq,Int.reduceLT,Int.reduceLE,Nat.reduceLT,ti2,ti3,ti4,ti45,ti46,ti38,ti25,ti30,ti22,ti32,ti24,ti95,ti172,ti169,ti165,ti166,ti65,ti143,ti87, h69, h67, h7, h2, hr62, ga, gb, hln, e1, h13]
            refine draw_id (by kernel_rfl) (by kernel_rfl) ?_
            try simp (disch := first | omega | (simp only [ints_length, List.length_replicate, List.length_set]; done) | (simp only [ints_length, List.length_replicate, List.length_set]; omega)) only [Sall,evalOp,init,binE,binI,unE,convE,okNil,builtE,gv,TD.isAgg,resV,↓reduceIte,Nat.reduceEqDiff,reduceCtorEq,Nat.reduceAdd,Nat.reduceMul,Nat.reduceLeDiff,quietOp,blindOp,Int.reduceEq,Int.reduceLT,Int.reduceLE,Nat.reduceLT,ti2,ti3,ti4,ti45,ti46,ti38,ti25,ti30,ti22,ti32,ti24,ti95,ti172,ti169,ti165,ti166,ti65,ti143,ti87, h13, h7, h2, hr62, hc6, ga, gb, zz, slCells, hln, w64]
            (repeat refine And.intro (by omega) ?_)
            refine ⟨.inr (.inr (sc6.le _)), ?_⟩
            obtain ⟨H7, e7⟩ : ∃ H7, H7 = H6.push ⟨2, true, [.int .i64 (pts.getD a.toNat 0 - pts.getD b 0)]⟩ := ⟨_, rfl⟩
            have n7 : H7.next = H6.next + 1 := by rw [e7]; rfl
            have r7 : ∀ j, j < H6.next → H7.row j = H6.row j := fun j hj => by rw [e7, AH.push_row, if_neg (by omega)]
            have sc7 : Sc H7 := by rw [e7]; exact sc6.push _
            rw [← e7]
            clear e7
            refine appE_frS (k := 1) (lo := lo) (hi := hi) (l := roomL b pts a) (m := [pts.getD a.toNat 0 - pts.getD b 0]) (f6.same fun j _ hj => r7 j (by omega)) rfl (by omega) rfl (by omega) (by decide) (by omega) (by omega) sc7 ?_
            intro v' H8 n8 s8 sc8 f8
            refine ⟨.inr (.inl (by kernel_rfl)), ?_⟩
            have er : roomL b pts a ++ [pts.getD a.toNat 0 - pts.getD b 0] = roomL (b + 1) pts a := by simp [roomL, List.range_succ]
            rw [er] at f8
            have hr8 : ∀ j, j < H'.next → H8.row j = H'.row j := fun j hj => by rw [s8 j (by omega) (by omega), r7 j (by omega), hr6 j hj]
            have hc8 : H8.row (H'.next + 1) = some ⟨38, true, [rv]⟩ := by rw [s8 _ (by omega) (by omega), r7 _ (by omega), hc6]
            have hone8 := f8.rd.one
            try simp (disch := first | omega | (simp only [ints_length, List.length_replicate, List.length_set]; done) | (simp only [ints_length, List.length_replicate, List.length_set]; omega)) only [Sall,evalOp,init,binE,binI,unE,convE,okNil,builtE,gv,TD.isAgg,resV,↓reduceIte,Nat.reduceEqDiff,reduceCtorEq,Nat.reduceAdd,Nat.reduceMul,Nat.reduceLeDiff,quietOp,blindOp,Int.reduceEq,Int.reduceLT,Int.reduceLE,Nat.reduceLT,ti2,ti3,ti4,ti45,ti46,ti38,ti25,ti30,ti22,ti32,ti24,ti95,ti172,ti169,ti165,ti166,ti65,ti143,ti87, h69, h68, h67, h7, h8, h2, h3, h13, hc8, hone8, w64]
            (repeat refine And.intro (by omega) ?_)
            refine ⟨.inr (.inl (by kernel_rfl)), n - (b + 1), by omega, b + 1, H7.next, H7.next + 1, v', rfl, by omega, by omega, by omega, ?_⟩
            exact ⟨fun j hj => by rw [if_neg (by omega)]; exact hr8 j hj, rfl, f8.same fun j j1 j2 => by rw [AH.setCells_row, if_neg (by omega)], by omega, by omega, by omega, .inr (by omega), sc8.set _ _, fun j hj => by
              by_cases e : j = b
              · rw [e]; exact hov
              · exact hno j (by omega)⟩
        · have hbe : b = n := by omega
          subst hbe
          have eo : ¬ overB b pts a = true := fun h => by
            obtain ⟨j, hj, hd⟩ := List.any_eq_true.1 h
            exact hno j (List.mem_range.1 hj) (of_decide_eq_true hd)
          rw [if_neg eo]
          obtain ⟨ri, ri1, ri2, rfl, rir⟩ := f6.get (by omega)
          have few := hgm.few
          dsimp only at few
          have hgiH := hsc _ _ hG.row
          obtain ⟨G, hGd⟩ : ∃ G, G = gs.length := ⟨_, rfl⟩
          have e9 : zeros G [.slice none 0 0] = List.replicate G (.slice none 0 0) := zeros_nil G
          rw [← hGd] at hr63 ⊢
          have neE : ¬ H2.next = H6.next + 1 := by omega
          have neF : ¬ H2.next = H6.next := by omega
          have neG : ¬ H2.next + 1 = H6.next := by omega
          try simp (disch := first | omega | (simp only [ints_length, List.length_replicate, List.length_set]; done) | (simp only [ints_length, List.length_replicate, List.length_set]; omega)) only [Sall,evalOp,init,binE,binI,unE,convE,okNil,builtE,gv,TD.isAgg,resV,↓reduceIte,Nat.reduceEqDiff,reduceCtorEq,Nat.reduceAdd,Nat.reduceMul,Nat.reduceLeDiff,quietOp,blindOp,Int.reduceEq,Int.reduceLT,Int.reduceLE,Nat.reduceLT,ti2,ti3,ti4,ti45,ti46,ti38,ti25,ti30,ti22,ti32,ti24,ti95,ti172,ti169,ti165,ti166,ti65,ti143,ti87, h7, h8, h2, h3, h13, hr63, e9, neE, neF, neG]
          (repeat refine And.intro (by omega) ?_)
          try simp (disch := first | omega | (simp only [ints_length, List.length_replicate, List.length_set]; done) | (simp only [ints_length, List.length_replicate, List.length_set]; omega)) only [Sall,evalOp,init,binE,binI,unE,convE,okNil,builtE,gv,TD.isAgg,resV,↓reduceIte,Nat.reduceEqDiff,reduceCtorEq,Nat.reduceAdd,Nat.reduceMul,Nat.reduceLeDiff,quietOp,blindOp,Int.reduceEq,Int.reduceLT,Int.reduceLE,Nat.reduceLT,ti2,ti3,ti4,ti45,ti46,ti38,ti25,ti30,ti22,ti32,ti24,ti95,ti172,ti169,ti165,ti166,ti65,ti143,ti87, h7, h8, h2, h3, h13, hr63, e9, neE, neF, neG, List.mem_cons, List.not_mem_nil, or_false, forall_eq_or_imp, forall_eq, Array.size_empty]
          obtain ⟨H7, e7⟩ : ∃ H7, H7 = ((((H6.push ⟨38, true, List.replicate G (.slice none 0 0)⟩).push ⟨25, true, [.slice none 0 0]⟩).setCells (H6.next + 1) [.slice (some ⟨H6.next, 0, some 1⟩) G G]).push ⟨143, true, [.nilFunc]⟩).setCells (H6.next + 2) [.func (.func 161) #[] #[.pointer (some ⟨H2.next + 1, 0, none⟩), .pointer (some ⟨H'.next + 1, 0, none⟩), .pointer (some ⟨H6.next + 1, 0, none⟩), .pointer (some ⟨H6.next + 2, 0, none⟩)]] := ⟨_, rfl⟩
          have n7 : H7.next = H6.next + 3 := by rw [e7]; rfl
          have r7 : ∀ j, j < H6.next → H7.row j = H6.row j := fun j hj => by rw [e7]; simp only [AH.setCells_row, AH.push_row, AH.push_next, AH.setCells_next]; rw [if_neg (by omega), if_neg (by omega), if_neg (by omega), if_neg (by omega), if_neg (by omega)]
          have sc7 : Sc H7 := by rw [e7]; exact ((((sc6.push _).push _).set _ _).push _).set _ _
          have o7 : H7.row H6.next = some ⟨38, true, List.replicate G (.slice none 0 0)⟩ := by rw [e7]; simp only [AH.setCells_row, AH.push_row, AH.push_next, AH.setCells_next]; rw [if_neg (by omega), if_neg (by omega), if_neg (by omega), if_neg (by omega), if_true]
          have oc7 : H7.row (H6.next + 1) = some ⟨25, true, [.slice (some ⟨H6.next, 0, some 1⟩) G G]⟩ := by rw [e7]; simp only [AH.setCells_row, AH.push_row, AH.push_next, AH.setCells_next]; rw [if_neg (by omega), if_neg (by omega), if_true, if_true]; rfl
          have gc7 : H7.row (H6.next + 2) = some ⟨143, true, [.func (.func 161) #[] #[.pointer (some ⟨H2.next + 1, 0, none⟩), .pointer (some ⟨H'.next + 1, 0, none⟩), .pointer (some ⟨H6.next + 1, 0, none⟩), .pointer (some ⟨H6.next + 2, 0, none⟩)]]⟩ := by rw [e7]; simp only [AH.setCells_row, AH.push_row, AH.push_next, AH.setCells_next]; rw [if_true, if_true]; rfl
          have le7 : H7.row (H2.next + 1) = some ⟨25, true, [.slice (some ⟨gi, 0, some 1⟩) G G]⟩ := by rw [r7 _ (by omega)]; exact hr63
          have rc7 : H7.row (H'.next + 1) = some ⟨38, true, [.slice (some ⟨ri, 0, some 1⟩) b b]⟩ := by rw [r7 _ (by omega)]; exact hc6
          have s7 : H7.row H.next = some ⟨32, true, [.int .i64 b, v]⟩ := by rw [r7 _ (by omega)]; exact hr61
          have ri7 : H7.row ri = some ⟨2, true, ints (roomL b pts a)⟩ := by rw [r7 _ (by omega)]; exact rir
          rw [← e7]
          clear e7
          have hgm7 : GmR (H6.next + 3) ri H6.next G (tmG gs) H7 (.slice (some ⟨gi, 0, some 1⟩) G G) := by
            refine ⟨gi, vs, rfl, by omega, by omega, by omega, by rw [r7 _ (by omega), hr6 _ hgiH]; exact hG.row, fun j hj => ?_⟩
            obtain ⟨q, q1, q2, q3, q4⟩ := hG.at_ j (by omega)
            have hq := hsc _ _ q3
            refine ⟨q, by omega, by omega, by omega, q2, ?_⟩
            rw [r7 _ (by omega), hr6 _ hq, q3]
            have := tmG_pair hgm (g := j) (by dsimp only; omega)
            dsimp only at this
            rw [this]
          have htm : ∀ j k', tmG gs j k' < b := tmG_lt hgm (by omega)
          obtain ⟨tm, htmd⟩ : ∃ tm, tm = tmG gs := ⟨_, rfl⟩
          rw [← htmd] at htm hgm7 ⊢
          clear htmd
          have hru : ∀ c, (roomL b pts a).getD c 0 ≤ 4294967296 := fun c => by
            by_cases hc : c < b
            · rw [roomL_get hc]; have := hbnd a.toNat; have := hbnd c; omega
            · rw [List.getD_eq_getElem?_getD, List.getElem?_eq_none (by rw [roomL_length]; omega)]; show (0 : Int) ≤ _; omega
          have hnil : ∀ g, (List.replicate G ([] : List Int)).getD g [] = [] := fun g => by
            rw [List.getD_eq_getElem?_getD, List.getElem?_replicate]; split <;> rfl
          have hW0 : WI b G 0 (List.replicate G []) (roomL b pts a) := by
            refine ⟨fun mt hmt => ⟨by simp, roomL_length _ _ _, hmt, fun g x hx => ?_, fun c hc => ?_⟩, fun g hg => ?_, hru⟩
            · have hx : x ∈ (List.replicate G ([] : List Int)).getD g [] := hx
              rw [hnil] at hx; simp at hx
            · show 0 ≤ (roomL b pts a).getD c 0
              rw [roomL_get hc]
              have := hno c hc
              omega
            · rw [hnil]; simp
          have hO0 : OwR (H6.next + 3) H6.next H7 (List.replicate G []) (List.replicate G (.slice none 0 0)) (fun g => g) := by
            refine ⟨o7, by simp, fun g hg => .inl ⟨?_, hnil g⟩, fun g g' _ _ h => absurd (hnil g) h⟩
            rw [List.length_replicate] at hg
            rw [List.getElem?_replicate, if_pos hg]
          obtain ⟨rm0, hrm0⟩ : ∃ rm0, rm0 = roomL b pts a := ⟨_, rfl⟩
          rw [← hrm0] at ri7 hW0 ⊢
          have upH : ∀ H8 : AH, H6.next + 3 ≤ H8.next → (∀ j, j < H6.next + 3 → j ≠ ri → j ≠ H6.next → H8.row j = H7.row j) → Up H.next H H8 := fun H8 h1 h2 => ⟨by have := hup.next; omega, fun j hj => by
            rw [h2 j (by omega) (by omega) (by omega), r7 j (by omega), hr6 j (by omega), hup.row j hj]⟩
          rw [show List.range' 0 (2 * G) = List.range' (2 * 0) (2 * G - 2 * 0) from rfl]
          refine awp_loop (fun z t H8 => ∃ (g : Nat) (ow : List (List Int)) (rm : List Int), z = G - g ∧ g ≤ G ∧ t 95 = .int .i64 g ∧ t 94 = .int .i64 G ∧ t 17 = .pointer (some ⟨H6.next + 2, 0, none⟩) ∧ t 3 = .pointer (some ⟨H.next, 0, none⟩) ∧
            allH tm b G (List.range' (2 * 0) (2 * G - 2 * 0)) (List.replicate G []) rm0 = allH tm b G (List.range' (2 * g) (2 * G - 2 * g)) ow rm ∧ WI b G (2 * g) ow rm ∧
            (∃ vs q, OwR (H6.next + 3) H6.next H8 ow vs q) ∧ H8.row ri = some ⟨2, true, ints rm⟩ ∧ (∀ j, j < H6.next + 3 → j ≠ ri → j ≠ H6.next → H8.row j = H7.row j) ∧ H6.next + 3 ≤ H8.next ∧ Sc H8) G ?_ ?_
          · refine ⟨0, List.replicate G [], rm0, by omega, by omega, ?_⟩
            try simp (disch := first | omega | (simp only [ints_length, List.length_replicate, List.length_set]; done) | (simp only [ints_length, List.length_replicate, List.length_set]; omega)) only [Sall,evalOp,init,binE,binI,unE,convE,okNil,builtE,gv,TD.isAgg,resV,↓reduceIte,Nat.reduceEqDiff,reduceCtorEq,Nat.reduceAdd,Nat.reduceMul,Nat.reduceLeDiff,quietOp,blindOp,Int.reduceEq,Int.reduceLT,Int.reduceLE,Nat.reduceLT,ti2,ti3,ti4,ti45,ti46,ti38,ti25,ti30,ti22,ti32,ti24,ti95,ti172,ti169,ti165,ti166,ti65,ti143,ti87, Int.natCast_zero, h3]
            exact ⟨hW0, ⟨_, _, hO0⟩, ri7, by omega, sc7⟩
          · rintro z t H8 ⟨g, ow, rm, hz, hgG, h95, h94, h17, h3, hAll, hW, hO, hrm, hfx, hn8, sc8⟩
            rw [hAll]
            try simp (disch := first | omega | (simp only [ints_length, List.length_replicate, List.length_set]; done) | (simp only [ints_length, List.length_replicate, List.length_set]; omega)) only [Sall,evalOp,init,binE,binI,unE,convE,okNil,builtE,gv,TD.isAgg,resV,↓reduceIte,Nat.reduceEqDiff,reduceCtorEq,Nat.reduceAdd,Nat.reduceMul,Nat.reduceLeDiff,quietOp,blindOp,Int.reduceEq,Int.reduceLT,Int.reduceLE,Nat.reduceLT,ti2,ti3,ti4,ti45,ti46,ti38,ti25,ti30,ti22,ti32,ti24,ti95,ti172,ti169,ti165,ti166,ti65,ti143,ti87, h95, h94]
            refine condC_dec (fun hh => ?_) (fun hh => ?_)
            · try simp (disch := first | omega | (simp only [ints_length, List.length_replicate, List.length_set]; done) | (simp only [ints_length, List.length_replicate, List.length_set]; omega)) only [Sall,evalOp,init,binE,binI,unE,convE,okNil,builtE,gv,TD.isAgg,resV,↓reduceIte,Nat.reduceEqDiff,reduceCtorEq,Nat.reduceAdd,Nat.reduceMul,Nat.reduceLeDiff,quietOp,blindOp,Int.reduceEq,Int.reduceLT,Int.reduceLE,Nat.reduceLT,ti2,ti3,ti4,ti45,ti46,ti38,ti25,ti30,ti22,ti32,ti24,ti95,ti172,ti169,ti165,ti166,ti65,ti143,ti87, h95, h94, h17, h3]
              rw [show List.range' (2 * g) (2 * G - 2 * g) = List.range' (2 * g + 0) (2 * G - (2 * g + 0)) from rfl]
              refine awp_loop (fun y t H9 => ∃ (z : Nat) (ow' : List (List Int)) (rm' : List Int), y = 2 - z ∧ z ≤ 2 ∧ t 98 = .int .i64 z ∧ t 18 = .int .i64 g ∧ t 95 = .int .i64 g ∧ t 94 = .int .i64 G ∧ t 17 = .pointer (some ⟨H6.next + 2, 0, none⟩) ∧ t 3 = .pointer (some ⟨H.next, 0, none⟩) ∧
                allH tm b G (List.range' (2 * g + 0) (2 * G - (2 * g + 0))) ow rm = allH tm b G (List.range' (2 * g + z) (2 * G - (2 * g + z))) ow' rm' ∧ WI b G (2 * g + z) ow' rm' ∧
                (∃ vs q, OwR (H6.next + 3) H6.next H9 ow' vs q) ∧ H9.row ri = some ⟨2, true, ints rm'⟩ ∧ (∀ j, j < H6.next + 3 → j ≠ ri → j ≠ H6.next → H9.row j = H7.row j) ∧ H6.next + 3 ≤ H9.next ∧ Sc H9) 2 ?_ ?_
              · refine ⟨0, ow, rm, by omega, by omega, ?_⟩
                try simp (disch := first | omega | (simp only [ints_length, List.length_replicate, List.length_set]; done) | (simp only [ints_length, List.length_replicate, List.length_set]; omega)) only [Sall,evalOp,init,binE,binI,unE,convE,okNil,builtE,gv,TD.isAgg,resV,↓reduceIte,Nat.reduceEqDiff,reduceCtorEq,Nat.reduceAdd,Nat.reduceMul,Nat.reduceLeDiff,quietOp,blindOp,Int.reduceEq,Int.reduceLT,Int.reduceLE,Nat.reduceLT,ti2,ti3,ti4,ti45,ti46,ti38,ti25,ti30,ti22,ti32,ti24,ti95,ti172,ti169,ti165,ti166,ti65,ti143,ti87, Int.natCast_zero, h95, h94, h17, h3]
                exact ⟨hW, hO, hrm, hfx, hn8, sc8⟩
              · rintro y t H9 ⟨z', ow', rm', hy, hz2, h98, h18, h95, h94, h17, h3, hAll', hW', ⟨vs', q', hO'⟩, hrm', hfx', hn9, sc9⟩
                rw [hAll']
                try simp (disch := first | omega | (simp only [ints_length, List.length_replicate, List.length_set]; done) | (simp only [ints_length, List.length_replicate, List.length_set]; omega)) only [Sall,evalOp,init,binE,binI,unE,convE,okNil,builtE,gv,TD.isAgg,resV,↓reduceIte,Nat.reduceEqDiff,reduceCtorEq,Nat.reduceAdd,Nat.reduceMul,Nat.reduceLeDiff,quietOp,blindOp,Int.reduceEq,Int.reduceLT,Int.reduceLE,Nat.reduceLT,ti2,ti3,ti4,ti45,ti46,ti38,ti25,ti30,ti22,ti32,ti24,ti95,ti172,ti169,ti165,ti166,ti65,ti143,ti87, h98]
                refine condC_dec (fun h2 => ?_) (fun h2 => ?_)
                · rw [show 2 * G - (2 * g + z') = (2 * G - (2 * g + z' + 1)) + 1 by omega, List.range'_succ]
                  have hst : allH tm b G ((2 * g + z') :: List.range' (2 * g + z' + 1) (2 * G - (2 * g + z' + 1))) ow' rm' = (if (hiveF tm G (b + 1) ⟨ow', rm', List.replicate b false⟩ ((2 * g + z') / 2)).1 = true then allH tm b G (List.range' (2 * g + z' + 1) (2 * G - (2 * g + z' + 1))) (hiveF tm G (b + 1) ⟨ow', rm', List.replicate b false⟩ ((2 * g + z') / 2)).2.ow (hiveF tm G (b + 1) ⟨ow', rm', List.replicate b false⟩ ((2 * g + z') / 2)).2.rm else false) := rfl
                  rw [hst]
                  have hWs := hW'.step (tm := tm) htm (by omega)
                  have hg2 : (2 * g + z') / 2 = g := by omega
                  rw [hg2] at hWs ⊢
                  have s9 := hfx' H.next (by omega) (by omega) (by omega)
                  rw [s7] at s9
                  have gc9 := hfx' (H6.next + 2) (by omega) (by omega) (by omega)
                  rw [gc7] at gc9
                  have ez : zeros b [.bool false] = bools (List.replicate b false) := zeros_bools b
                  try simp (disch := first | omega | (simp only [ints_length, List.length_replicate, List.length_set]; done) | (simp only [ints_length, List.length_replicate, List.length_set]; omega)) only [Sall,evalOp,init,binE,binI,unE,convE,okNil,builtE,gv,TD.isAgg,resV,↓reduceIte,Nat.reduceEqDiff,reduceCtorEq,Nat.reduceAdd,Nat.reduceMul,Nat.reduceLeDiff,quietOp,blindOp,Int.reduceEq,Int.reduceLT,Int.reduceLE,Nat.reduceLT,ti2,ti3,ti4,ti45,ti46,ti38,ti25,ti30,ti22,ti32,ti24,ti95,ti172,ti169,ti165,ti166,ti65,ti143,ti87, h98, h18, h95, h94, h17, h3, s9, gc9, ez]
                  refine draw_id (by kernel_rfl) (by kernel_rfl) ?_
                  try simp (disch := first | omega | (simp only [ints_length, List.length_replicate, List.length_set]; done) | (simp only [ints_length, List.length_replicate, List.length_set]; omega)) only [Sall,evalOp,init,binE,binI,unE,convE,okNil,builtE,gv,TD.isAgg,resV,↓reduceIte,Nat.reduceEqDiff,reduceCtorEq,Nat.reduceAdd,Nat.reduceMul,Nat.reduceLeDiff,quietOp,blindOp,Int.reduceEq,Int.reduceLT,Int.reduceLE,Nat.reduceLT,ti2,ti3,ti4,ti45,ti46,ti38,ti25,ti30,ti22,ti32,ti24,ti95,ti172,ti169,ti165,ti166,ti65,ti143,ti87, h98, h18, h95, h94, h17, h3, s9, gc9, ez]
                  (repeat refine And.intro (by omega) ?_)
                  refine ⟨.inr (.inr (sc9.le _)), ?_⟩
                  obtain ⟨H10, e10⟩ : ∃ H10, H10 = H9.push ⟨4, true, bools (List.replicate b false)⟩ := ⟨_, rfl⟩
                  have n10 : H10.next = H9.next + 1 := by rw [e10]; rfl
                  have r10 : ∀ j, j < H9.next → H10.row j = H9.row j := fun j hj => by rw [e10, AH.push_row, if_neg (by omega)]
                  have m10 : H10.row H9.next = some ⟨4, true, bools (List.replicate b false)⟩ := by rw [e10, AH.push_row, if_pos rfl]
                  have sc10 : Sc H10 := by rw [e10]; exact sc9.push _
                  rw [← e10]
                  clear e10
                  have hcall := hive_c b G ⟨by omega, by omega⟩ tm htm (.slice (some ⟨gi, 0, some 1⟩) G G) (H2.next + 1) (H'.next + 1) (H6.next + 1) (H6.next + 2) ri H6.next (H6.next + 3) (by omega) ⟨by omega, by omega, by omega, by omega, by omega, by omega⟩ ⟨by omega, by omega, by omega, by omega⟩ ⟨by omega, by omega, by omega, by omega⟩ H7 le7 rc7 oc7 gc7 hgm7 (b + 1) ⟨ow', rm', List.replicate b false⟩ g H9.next H10 (hW'.1 _ (by simp)) hW'.few hW'.2.2 (by omega) (unm_none b)
                    ⟨by rw [r10 _ (by omega)]; exact hrm', m10, ⟨vs', q', hO'.keep (by omega) fun j r hr _ => by rw [r10 _ (sc9 _ _ hr)]; exact hr⟩, fun j j1 j2 j3 => by rw [r10 _ (by omega)]; exact hfx' j j1 j2 j3, by omega, sc10⟩ (by omega)
                  revert hcall hWs
                  generalize hiveF tm G (b + 1) ⟨ow', rm', List.replicate b false⟩ g = R
                  intro hWs hcall
                  refine hcall.fin ?_
                  rintro H11 ⟨hS, hn11⟩
                  obtain ⟨rb, s'⟩ := R
                  obtain ⟨vs2, q2, hO2⟩ := hS.ow
                  refine ⟨.inr (.inl (by kernel_rfl)), ?_⟩
                  have hS1 := hS.rm
                  have hS2 := hS.fix
                  have hS3 := hS.nxt
                  have hS4 := hS.sc
                  dsimp only at hS1 hO2 hWs
                  obtain hrb | hrb : rb = true ∨ rb = false := by cases rb <;> simp
                  · subst hrb
                    try simp (disch := first | omega | (simp only [ints_length, List.length_replicate, List.length_set]; done) | (simp only [ints_length, List.length_replicate, List.length_set]; omega)) only [Sall,evalOp,init,binE,binI,unE,convE,okNil,builtE,gv,TD.isAgg,resV,↓reduceIte,Nat.reduceEqDiff,reduceCtorEq,Nat.reduceAdd,Nat.reduceMul,Nat.reduceLeDiff,quietOp,blindOp,Int.reduceEq,Int.reduceLT,Int.reduceLE,Nat.reduceLT,ti2,ti3,ti4,ti45,ti46,ti38,ti25,ti30,ti22,ti32,ti24,ti95,ti172,ti169,ti165,ti166,ti65,ti143,ti87, h98, h18, h95, h94, h17, h3, w64]
                    (repeat refine And.intro (by omega) ?_)
                    exact ⟨2 - (z' + 1), by omega, z' + 1, s'.ow, s'.rm, rfl, by omega, by omega, rfl, hWs rfl, ⟨vs2, q2, hO2⟩, hS1, hS2, hS3, hS4⟩
                  · subst hrb
                    try simp (disch := first | omega | (simp only [ints_length, List.length_replicate, List.length_set]; done) | (simp only [ints_length, List.length_replicate, List.length_set]; omega)) only [Sall,evalOp,init,binE,binI,unE,convE,okNil,builtE,gv,TD.isAgg,resV,↓reduceIte,Nat.reduceEqDiff,reduceCtorEq,Nat.reduceAdd,Nat.reduceMul,Nat.reduceLeDiff,quietOp,blindOp,Int.reduceEq,Int.reduceLT,Int.reduceLE,Nat.reduceLT,ti2,ti3,ti4,ti45,ti46,ti38,ti25,ti30,ti22,ti32,ti24,ti95,ti172,ti169,ti165,ti166,ti65,ti143,ti87, h98]
                    exact upH _ hS3 hS2
                · have hze : z' = 2 := by omega
                  subst hze
                  try simp (disch := first | omega | (simp only [ints_length, List.length_replicate, List.length_set]; done) | (simp only [ints_length, List.length_replicate, List.length_set]; omega)) only [Sall,evalOp,init,binE,binI,unE,convE,okNil,builtE,gv,TD.isAgg,resV,↓reduceIte,Nat.reduceEqDiff,reduceCtorEq,Nat.reduceAdd,Nat.reduceMul,Nat.reduceLeDiff,quietOp,blindOp,Int.reduceEq,Int.reduceLT,Int.reduceLE,Nat.reduceLT,ti2,ti3,ti4,ti45,ti46,ti38,ti25,ti30,ti22,ti32,ti24,ti95,ti172,ti169,ti165,ti166,ti65,ti143,ti87, h95, h94, h17, h3, w64]
                  exact ⟨G - (g + 1), by omega, g + 1, ow', rm', rfl, by omega, by omega, rfl, hW', ⟨vs', q', hO'⟩, hrm', hfx', hn9, sc9⟩
            · have hge : g = G := by omega
              subst hge
              rw [Nat.sub_self]
              try simp (disch := first | omega | (simp only [ints_length, List.length_replicate, List.length_set]; done) | (simp only [ints_length, List.length_replicate, List.length_set]; omega)) only [Sall,evalOp,init,binE,binI,unE,convE,okNil,builtE,gv,TD.isAgg,resV,↓reduceIte,Nat.reduceEqDiff,reduceCtorEq,Nat.reduceAdd,Nat.reduceMul,Nat.reduceLeDiff,quietOp,blindOp,Int.reduceEq,Int.reduceLT,Int.reduceLE,Nat.reduceLT,ti2,ti3,ti4,ti45,ti46,ti38,ti25,ti30,ti22,ti32,ti24,ti95,ti172,ti169,ti165,ti166,ti65,ti143,ti87, true_and]
              exact ⟨rfl, upH _ hn8 hfx⟩
end Go.Proofs.Ytgkmdfjjlghecaa.A
end

section
set_option linter.unusedSimpArgs false
set_option linter.unusedVariables false
namespace Go.Abs
open Go Go.RowKit

theorem Fr2.sameR {k ty ty' lo hi : Nat} {H H' : AH} {v : Value} {ll : List (List Int)} (h : Fr2 k ty ty' lo hi H v ll) (hs : ∀ i r, lo ≤ i → i < hi → H.row i = some r → r.ty = ty ∨ r.ty = ty' → H'.row i = some r) : Fr2 k ty ty' lo hi H' v ll := by
  rcases h with h | ⟨i, vs, b, h1, h2, hv, hr, hl, g0, gn, gi, gm, hh⟩
  · exact .inl h
  · have mono : ∀ j, b 0 ≤ b j := fun j => by
      induction j with
      | zero => exact Nat.le_refl _
      | succ j ih => exact Nat.le_trans ih (gm j)
    have mono2 : ∀ d j, b j ≤ b (j + d) := fun d => by
      induction d with
      | zero => intro j; exact Nat.le_refl _
      | succ d ih => intro j; exact Nat.le_trans (ih j) (gm (j + d))
    refine .inr ⟨i, vs, b, h1, h2, hv, hs i _ h1 h2 hr (.inl rfl), hl, g0, gn, gi, gm, fun j hj => ?_⟩
    obtain ⟨x, m, hx, hf⟩ := hh j hj
    refine ⟨x, m, hx, hf.1, ?_⟩
    rcases hf.2 with h3 | ⟨q, q1, q2, q3, q4⟩
    · exact .inl h3
    · have a1 := mono j
      have a2 := mono2 (ll.length - (j + 1)) (j + 1)
      rw [show j + 1 + (ll.length - (j + 1)) = ll.length by omega] at a2
      exact .inr ⟨q, q1, q2, q3, hs q _ (by omega) (by omega) q4 (.inr rfl)⟩
theorem appE_fr2K {P : Program} {E : TI} {k ty ty' lo hi m : Nat} {H : AH} {v x : Value} {ll : List (List Int)} {l : List Int} {K : Value → AH → Prop} (h : Fr2 k ty ty' lo hi H v ll) (hx : Fr k ty' hi H.next H x m l) (hE : E.size = 1) (hb : E.bytes ≤ 32768) (hn : ll.length + 1 ≤ 4294967296) (hlo : lo ≤ hi) (hhi : hi ≤ H.next)
    (hK : ∀ v' H', H'.next = H.next + 1 → (∀ i, ¬(lo ≤ i ∧ i < hi) → i < H.next → H'.row i = H.row i) → (∀ j r, j < H.next → H.row j = some r → r.ty ≠ ty → H'.row j = some r) → Fr2 k ty ty' lo (H.next + 1) H' v' (ll ++ [l]) → K v' H') :
    runOut P H (appE E ty v [x] 1 H) K := by
  unfold appE
  rw [if_neg (by omega)]
  refine Holds.mp ?_
  rcases h with ⟨rfl, rfl⟩ | ⟨i, vs, b, h1, h2, rfl, hr, hvl, g0, gn, gi, gm, hj⟩ <;> rw [holds_def]
  · simp only [asSl_nil, runOut_need, runOut_val, hE]
    refine ⟨⟨by omega, hb⟩, hK _ _ rfl (fun i _ hi => by rw [AH.push_row, if_neg (by omega)]) (fun j r hj hr _ => by rw [AH.push_row, if_neg (by omega)]; exact hr) (.inr ⟨H.next, [x], fun j => if j = 0 then hi else H.next, by omega, by omega, rfl, by rw [AH.push_row, if_pos rfl], rfl, ?_, ?_, .inr ?_, fun j => ?_, fun j hj => ?_⟩)⟩
    · dsimp only; rw [if_pos rfl]; exact hlo
    · dsimp only [List.nil_append, List.length_singleton]; rw [if_neg (by omega)]; omega
    · dsimp only [List.nil_append, List.length_singleton]; rw [if_neg (by omega)]; omega
    · dsimp only; split
      · rw [if_neg (by omega)]; exact hhi
      · rw [if_neg (by omega)]; omega
    · simp only [List.nil_append, List.length_singleton] at hj
      have : j = 0 := by omega
      subst this
      refine ⟨x, m, rfl, ?_⟩
      dsimp only
      rw [if_pos rfl, if_neg (by omega)]
      exact hx.same fun z _ hz => by rw [AH.push_row, if_neg (by omega)]
  · simp only [asSl_some, hr, bindO_some, runOut_need, Nat.zero_add, hE, Nat.mul_one]
    refine ⟨⟨hn, hb, by omega, .inl rfl⟩, ?_⟩
    rw [if_neg (by omega)]
    simp only [runOut_need, runOut_val]
    refine ⟨by simp, hK _ _ rfl (fun j hj hj2 => ?_) (fun j r hj hr' hne => by rw [AH.push_row, if_neg (by rw [AH.drop_next]; omega), AH.drop_row, if_neg (by rintro rfl; rw [hr] at hr'; injection hr' with e; exact hne (by rw [← e]))]; exact hr') (.inr ⟨H.next, vs ++ [x], fun j => if j < ll.length then b j else if j = ll.length then hi else H.next, by omega, by omega, ?_, ?_, ?_, ?_, ?_, .inr ?_, fun j => ?_, fun j hjl => ?_⟩)⟩
    · rw [AH.push_row, if_neg (by rw [AH.drop_next]; omega), AH.drop_row, if_neg (by omega)]
    · rw [List.length_append]; rfl
    · rw [AH.push_row, AH.drop_next, if_pos rfl, seg_all _ _ hvl.symm]
    · rw [List.length_append, List.length_append, hvl]; rfl
    · dsimp only
      split
      · exact g0
      · split
        · exact hlo
        · omega
    · rw [List.length_append, List.length_singleton]
      dsimp only
      rw [if_neg (by omega), if_neg (by omega)]; omega
    · rw [List.length_append, List.length_singleton]
      dsimp only
      rw [if_neg (by omega), if_neg (by omega)]; omega
    · dsimp only
      by_cases c1 : j + 1 < ll.length
      · rw [if_pos (by omega), if_pos c1]; exact gm j
      · by_cases c2 : j + 1 = ll.length
        · rw [if_pos (by omega), if_neg c1, if_pos c2]
          have := mono_of_step gm (show j ≤ ll.length by omega); omega
        · by_cases c3 : j = ll.length
          · rw [if_neg (by omega), if_pos c3, if_neg c1, if_neg c2]; exact hhi
          · rw [if_neg (by omega), if_neg c3, if_neg c1, if_neg c2]; omega
    · rw [List.length_append, List.length_singleton] at hjl
      have old : ∀ z, lo ≤ z → z < H.next → ¬ z = i → ((H.drop i).push ⟨ty, true, seg vs 0 ll.length ++ [x]⟩).row z = H.row z := fun z _ z2 z3 => by
        rw [AH.push_row, if_neg (by rw [AH.drop_next]; omega), AH.drop_row, if_neg z3]
      by_cases c : j < ll.length
      · obtain ⟨y, q, hy, hf⟩ := hj j c
        refine ⟨y, q, by rw [List.getElem?_append_left (by omega), hy], ?_⟩
        have e1 : (ll ++ [l]).getD j [] = ll.getD j [] := by simp [List.getD_eq_getElem?_getD, List.getElem?_append_left c]
        rw [e1]
        have c1 := mono_of_step gm (Nat.zero_le j)
        have c2 := mono_of_step gm (show j + 1 ≤ ll.length by omega)
        have f1 : Fr k ty' (b j) (b (j + 1)) ((H.drop i).push ⟨ty, true, seg vs 0 ll.length ++ [x]⟩) y q (ll.getD j []) := hf.same fun z z1 z2 => old z (by omega) (by omega) (by omega)
        dsimp only
        rw [if_pos c]
        by_cases c3 : j + 1 < ll.length
        · rw [if_pos c3]; exact f1
        · rw [if_neg c3, if_pos (by omega)]; exact f1.wide (Nat.le_refl _) (by omega)
      · have c4 : j = ll.length := by omega
        subst c4
        refine ⟨x, m, by rw [← hvl, List.getElem?_append_right (Nat.le_refl _)]; simp, ?_⟩
        have e1 : (ll ++ [l]).getD ll.length [] = l := by simp [List.getD_eq_getElem?_getD]
        rw [e1]
        dsimp only
        rw [if_neg (by omega), if_pos rfl, if_neg (by omega), if_neg (by omega)]
        exact hx.same fun z z1 z2 => old z (by omega) z2 (by omega)

end Go.Abs
end

section
set_option linter.unusedSimpArgs false
set_option linter.unusedVariables false
namespace Go.Abs
open Go Go.RowKit

structure Th where
  p : AH → (Nat → Prop) → Prop
  loc : ∀ (H H' : AH) (S S' : Nat → Prop), (∀ i, S i → S' i) → (∀ i r, S i → H.row i = some r → H'.row i = some r) → p H S → p H' S'

/-- A slice that is all of its row. -/
def Th.sl (k : Nat) (ty : TypeId) (v : Value) (n : Nat) (vs : List Value) : Th where
  p := fun H S => vs.length = n * k ∧ ((n = 0 ∧ v = .slice none 0 0) ∨ ∃ i, S i ∧ v = .slice (some ⟨i, 0, some k⟩) n n ∧ H.row i = some ⟨ty, true, vs⟩)
  loc := fun H H' S S' hS hr h => ⟨h.1, h.2.imp id fun ⟨i, h1, h2, h3⟩ => ⟨i, hS i h1, h2, hr i _ h1 h3⟩⟩
/-- A row. -/
def Th.row (i : Nat) (r : Row) : Th where
  p := fun H S => S i ∧ H.row i = some r
  loc := fun H H' S S' hS hr h => ⟨hS i h.1, hr i r h.1 h.2⟩
/-- Nothing. -/
def Th.no : Th where
  p := fun _ _ => True
  loc := fun _ _ _ _ _ _ _ => trivial
/-- A slice of slices. -/
def Th.sl2 {α : Type} (f : α → Value) (ty ty' : TypeId) (v : Value) (ll : List (List α)) : Th where
  p := fun H S => (ll = [] ∧ v = .slice none 0 0) ∨ ∃ (i : Nat) (vs : List Value) (o : Nat → Nat), S i ∧ o i = 0 ∧ v = .slice (some ⟨i, 0, some 1⟩) ll.length ll.length ∧ H.row i = some ⟨ty, true, vs⟩ ∧ vs.length = ll.length ∧
    ∀ j, j < ll.length → ∃ x, vs[j]? = some x ∧ (Th.sl 1 ty' x (ll.getD j []).length ((ll.getD j []).map f)).p H (fun z => S z ∧ o z = j + 1)
  loc := fun H H' S S' hS hr h => h.imp id fun ⟨i, vs, o, h1, h2, h3, h4, h5, h6⟩ => ⟨i, vs, o, hS i h1, h2, h3, hr i _ h1 h4, h5, fun j hj => by
    obtain ⟨x, hx, hp⟩ := h6 j hj
    exact ⟨x, hx, (Th.sl 1 ty' x _ _).loc H H' _ _ (fun z hz => ⟨hS z hz.1, hz.2⟩) (fun z r hz => hr z r hz.1) hp⟩⟩

structure Ow (B H : AH) (L : List Th) : Prop where
  sc : Sc H
  next : B.next ≤ H.next
  low : ∀ i, i < B.next → H.row i = B.row i
  own : ∃ o : Nat → Nat, ∀ (k : Nat) (p : Th), L[k]? = some p → p.p H (fun i => B.next ≤ i ∧ i < H.next ∧ o i = k)

theorem Ow.refl {H : AH} (h : Sc H) : Ow H H [] := ⟨h, Nat.le_refl _, fun _ _ => rfl, fun _ => 0, fun k p hk => by simp at hk⟩
theorem Ow.up {B H : AH} {L : List Th} (h : Ow B H L) : Up B.next B H := ⟨h.next, h.low⟩
theorem Ow.old {B H : AH} {L : List Th} (h : Ow B H L) (hs : ∀ i r, B.row i = some r → i < B.next) : ∀ i r, B.row i = some r → H.row i = some r := fun i r hr => by rw [h.low i (hs i r hr)]; exact hr

theorem set_get {L : List Th} {k j : Nat} {p p' q : Th} (hk : L[k]? = some p) (h : (L.set k p')[j]? = some q) : (j = k ∧ q = p') ∨ (j ≠ k ∧ L[j]? = some q) := by
  rw [List.getElem?_set] at h
  by_cases e : k = j
  · subst e
    rw [if_pos rfl, if_pos (List.getElem?_eq_some_iff.1 hk).1] at h
    exact .inl ⟨rfl, (Option.some.inj h).symm⟩
  · rw [if_neg e] at h
    exact .inr ⟨fun h => e h.symm, h⟩

def ownF (N : Nat) (a b : Nat → Nat) (i : Nat) : Nat := if N ≤ i then a i else b i
theorem ownF_ge {N i : Nat} (a b : Nat → Nat) (h : N ≤ i) : ownF N a b i = a i := by unfold ownF; rw [if_pos h]
theorem ownF_lt {N i : Nat} (a b : Nat → Nat) (h : i < N) : ownF N a b i = b i := by unfold ownF; rw [if_neg (by omega)]

/-- One thing is changed, in its own rows and in new ones. -/
theorem Ow.upd {B H H' : AH} {L : List Th} (h : Ow B H L) {k : Nat} {p p' : Th} (hk : L[k]? = some p) (hn : H.next ≤ H'.next) (hs : Sc H')
    (hp : ∀ S, (∀ i, S i → B.next ≤ i ∧ i < H.next) → p.p H S → (∀ i, i < H.next → ¬ S i → H'.row i = H.row i) ∧ ∀ S' : Nat → Prop, (∀ i, S i → S' i) → (∀ i, H.next ≤ i → i < H'.next → S' i) → p'.p H' S') :
    Ow B H' (L.set k p') := by
  obtain ⟨o, ho⟩ := h.own
  obtain ⟨h1, h2⟩ := hp _ (fun i hi => ⟨hi.1, hi.2.1⟩) (ho k p hk)
  have hb := h.next
  refine ⟨hs, Nat.le_trans hb hn, fun i hi => by rw [h1 i (by omega) (fun hh => by omega), h.low i hi], ownF H.next (fun _ => k) o, fun j q hj => ?_⟩
  rcases set_get hk hj with ⟨rfl, rfl⟩ | ⟨hne, hq⟩
  · refine h2 _ (fun i hi => ⟨hi.1, by omega, ?_⟩) fun i i1 i2 => ⟨by omega, i2, ?_⟩
    · rw [ownF_lt _ _ hi.2.1]; exact hi.2.2
    · rw [ownF_ge _ _ i1]
  · refine q.loc H H' _ _ (fun i hi => ⟨hi.1, by omega, ?_⟩) (fun i r hi hr => ?_) (ho j q hq)
    · rw [ownF_lt _ _ hi.2.1]; exact hi.2.2
    · rw [h1 i (by omega) (fun hh => hne (hi.2.2.symm.trans hh.2.2)), hr]

/-- A new thing in new rows. -/
theorem Ow.add {B H H' : AH} {L : List Th} (h : Ow B H L) (p' : Th) (hn : H.next ≤ H'.next) (hs : Sc H') (hr : ∀ i, i < H.next → H'.row i = H.row i)
    (hp : ∀ S : Nat → Prop, (∀ i, H.next ≤ i → i < H'.next → S i) → p'.p H' S) : Ow B H' (L ++ [p']) := by
  obtain ⟨o, ho⟩ := h.own
  have hb := h.next
  refine ⟨hs, Nat.le_trans hb hn, fun i hi => by rw [hr i (by omega), h.low i hi], ownF H.next (fun _ => L.length) o, fun j q hj => ?_⟩
  by_cases hjl : j < L.length
  · rw [List.getElem?_append_left hjl] at hj
    refine q.loc H H' _ _ (fun i hi => ⟨hi.1, by omega, ?_⟩) (fun i r hi hrr => by rw [hr i hi.2.1, hrr]) (ho j q hj)
    rw [ownF_lt _ _ hi.2.1]; exact hi.2.2
  · rw [List.getElem?_append_right (by omega)] at hj
    have hj0 : j = L.length := by
      have := (List.getElem?_eq_some_iff.1 hj).1
      simp at this; omega
    subst hj0
    simp at hj
    subst hj
    refine hp _ fun i i1 i2 => ⟨by omega, i2, ?_⟩
    rw [ownF_ge _ _ i1]

/-- What a callee has built over the heap of its call. -/
theorem Ow.call {B H H' : AH} {L M : List Th} (h : Ow B H L) (k : Ow H H' M) : Ow B H' (L ++ M) := by
  obtain ⟨o, ho⟩ := h.own
  obtain ⟨u, hu⟩ := k.own
  have hb := h.next
  have hn := k.next
  refine ⟨k.sc, Nat.le_trans hb hn, fun i hi => by rw [k.low i (by omega), h.low i hi], ownF H.next (fun i => L.length + u i) o, fun j q hj => ?_⟩
  by_cases hjl : j < L.length
  · rw [List.getElem?_append_left hjl] at hj
    refine q.loc H H' _ _ (fun i hi => ⟨hi.1, by omega, ?_⟩) (fun i r hi hrr => by rw [k.low i hi.2.1, hrr]) (ho j q hj)
    rw [ownF_lt _ _ hi.2.1]; exact hi.2.2
  · rw [List.getElem?_append_right (by omega)] at hj
    refine q.loc H' H' _ _ (fun i hi => ⟨by omega, hi.2.1, ?_⟩) (fun i r _ hr => hr) (hu _ q hj)
    rw [ownF_ge _ _ hi.1, hi.2.2]; omega

/-- Things in the same rows at another base. -/
theorem Ow.keep {B H H' : AH} {L : List Th} (h : Ow B H L) (hn : H.next ≤ H'.next) (hs : Sc H') (hr : ∀ i, i < H.next → H'.row i = H.row i) : Ow B H' L := by
  obtain ⟨o, ho⟩ := h.own
  have hb := h.next
  exact ⟨hs, Nat.le_trans hb hn, fun i hi => by rw [hr i (by omega), h.low i hi], o, fun j q hj => q.loc H H' _ _ (fun i hi => ⟨hi.1, by omega, hi.2.2⟩) (fun i r hi hrr => by rw [hr i hi.2.1, hrr]) (ho j q hj)⟩

/-- Some of the things, in any order, each once. -/
theorem Ow.sub {B H : AH} {L M : List Th} (h : Ow B H L) (f : Nat → Nat) (hf : ∀ j, j < M.length → L[f j]? = M[j]?) (hi : ∀ i j, i < M.length → j < M.length → f i = f j → i = j) : Ow B H M := by
  obtain ⟨o, ho⟩ := h.own
  classical
  refine ⟨h.sc, h.next, h.low, fun i => if hh : ∃ j, j < M.length ∧ f j = o i then Classical.choose hh else M.length, fun j q hj => ?_⟩
  have hjl := (List.getElem?_eq_some_iff.1 hj).1
  refine q.loc H H _ _ (fun i hh => ⟨hh.1, hh.2.1, ?_⟩) (fun i r _ hr => hr) (ho (f j) q (by rw [hf j hjl]; exact hj))
  have hex : ∃ z, z < M.length ∧ f z = o i := ⟨j, hjl, hh.2.2.symm⟩
  show (if hh : ∃ j, j < M.length ∧ f j = o i then Classical.choose hh else M.length) = j
  rw [dif_pos hex]
  obtain ⟨c1, c2⟩ := Classical.choose_spec hex
  exact hi _ _ c1 hjl (by rw [c2, ← hh.2.2])
theorem Ow.left {B H : AH} {L M : List Th} (h : Ow B H (L ++ M)) : Ow B H L :=
  h.sub (fun j => j) (fun j hj => by rw [List.getElem?_append_left hj]) fun _ _ _ _ h => h
theorem Ow.forget {B H : AH} {L : List Th} (h : Ow B H L) (k : Nat) : Ow B H (L.set k .no) := by
  obtain ⟨o, ho⟩ := h.own
  refine ⟨h.sc, h.next, h.low, o, fun j q hj => ?_⟩
  by_cases hk : k < L.length
  · rcases set_get (List.getElem?_eq_getElem hk) hj with ⟨_, rfl⟩ | ⟨_, h2⟩
    · trivial
    · exact ho j q h2
  · rw [List.set_eq_of_length_le (by omega)] at hj
    exact ho j q hj

/-! ### Reading -/
theorem Ow.at {B H : AH} {L : List Th} (h : Ow B H L) {k : Nat} {p : Th} (hk : L[k]? = some p) : ∃ S, (∀ i, S i → B.next ≤ i ∧ i < H.next) ∧ p.p H S := by
  obtain ⟨o, ho⟩ := h.own
  exact ⟨_, fun i hi => ⟨hi.1, hi.2.1⟩, ho k p hk⟩
theorem Ow.ne {B H : AH} {L : List Th} (h : Ow B H L) {j k a b : Nat} {p q : Th} (hj : L[j]? = some p) (hk : L[k]? = some q) (hjk : j ≠ k) (ha : ∀ S, p.p H S → S a) (hb : ∀ S, q.p H S → S b) : a ≠ b := by
  obtain ⟨o, ho⟩ := h.own
  have h1 := (ha _ (ho j p hj)).2.2
  have h2 := (hb _ (ho k q hk)).2.2
  intro e
  subst e
  omega
theorem Ow.len {B H : AH} {L : List Th} (h : Ow B H L) (k : Nat) {z n : Nat} {ty : TypeId} {v : Value} {vs : List Value} (hk : L[k]? = some (.sl z ty v n vs)) : vs.length = n * z := by
  obtain ⟨S, _, hp⟩ := h.at hk
  exact hp.1
theorem Ow.get {B H : AH} {L : List Th} (h : Ow B H L) (k : Nat) {z n : Nat} {ty : TypeId} {v : Value} {vs : List Value} (hk : L[k]? = some (.sl z ty v n vs)) (hn : 0 < n) :
    ∃ i, B.next ≤ i ∧ i < H.next ∧ v = .slice (some ⟨i, 0, some z⟩) n n ∧ H.row i = some ⟨ty, true, vs⟩ := by
  obtain ⟨S, hS, hp⟩ := h.at hk
  rcases hp.2 with ⟨h0, _⟩ | ⟨i, h1, h2, h3⟩
  · omega
  · exact ⟨i, (hS i h1).1, (hS i h1).2, h2, h3⟩
theorem Ow.getV {B H : AH} {L : List Th} (h : Ow B H L) (k : Nat) {z n i m c o : Nat} {u : Option Nat} {ty : TypeId} {vs : List Value} (hk : L[k]? = some (.sl z ty (.slice (some ⟨i, o, u⟩) m c) n vs)) :
    B.next ≤ i ∧ i < H.next ∧ H.row i = some ⟨ty, true, vs⟩ := by
  obtain ⟨S, hS, hp⟩ := h.at hk
  rcases hp.2 with ⟨h0, h1⟩ | ⟨i', h1, h2, h3⟩
  · cases h1
  · cases h2
    exact ⟨(hS i h1).1, (hS i h1).2, h3⟩
theorem Ow.rowAt {B H : AH} {L : List Th} (h : Ow B H L) (k : Nat) {i : Nat} {r : Row} (hk : L[k]? = some (.row i r)) : H.row i = some r ∧ B.next ≤ i ∧ i < H.next := by
  obtain ⟨S, hS, hp⟩ := h.at hk
  exact ⟨hp.2, hS i hp.1⟩
theorem Ow.one {B H : AH} {L : List Th} (h : Ow B H L) (k : Nat) {z n : Nat} {ty : TypeId} {v : Value} {vs : List Value} (hk : L[k]? = some (.sl z ty v n vs)) : v.oneCell' = true := by
  obtain ⟨S, _, hp⟩ := h.at hk
  rcases hp.2 with ⟨_, rfl⟩ | ⟨i, _, rfl, _⟩ <;> rfl
theorem Ow.fr {B H : AH} {L : List Th} (h : Ow B H L) (k : Nat) {z n : Nat} {ty : TypeId} {v : Value} {l : List Int} (hk : L[k]? = some (.sl z ty v n (ints l))) : Fr z ty B.next H.next H v n l := by
  obtain ⟨S, hS, hp⟩ := h.at hk
  refine ⟨by have := hp.1; rwa [ints_length] at this, hp.2.imp id fun ⟨i, h1, h2, h3⟩ => ⟨i, (hS i h1).1, (hS i h1).2, h2, h3⟩⟩
theorem Ow.rd {B H : AH} {L : List Th} (h : Ow B H L) (k : Nat) {z n : Nat} {ty : TypeId} {v : Value} {l : List Int} (hk : L[k]? = some (.sl z ty v n (ints l))) : Rd z H v n l := (h.fr k hk).rd
theorem Ow.lenV {B H : AH} {L : List Th} (h : Ow B H L) (k : Nat) {z n : Nat} {ty : TypeId} {v : Value} {vs : List Value} (hk : L[k]? = some (.sl z ty v n vs)) (H' : AH) : asSl v (.val (.int .i64 0) H') (fun _ _ _ n _ => .val (.int .i64 (n : Int)) H') = .val (.int .i64 (n : Int)) H' := by
  obtain ⟨S, _, hp⟩ := h.at hk
  rcases hp.2 with ⟨rfl, rfl⟩ | ⟨i, _, rfl, _⟩ <;> rfl
theorem sl_mem {z n i m c o : Nat} {u : Option Nat} {ty : TypeId} {vs : List Value} {H : AH} (S : Nat → Prop) (h : (Th.sl z ty (.slice (some ⟨i, o, u⟩) m c) n vs).p H S) : S i := by
  rcases h.2 with ⟨h0, h1⟩ | ⟨i', h1, h2, h3⟩
  · cases h1
  · cases h2; exact h1

/-! ### New things, writing -/
theorem Ow.push {B H : AH} {L : List Th} (h : Ow B H L) (r : Row) : Ow B (H.push r) (L ++ [.row H.next r]) :=
  h.add _ (Nat.le_succ _) (h.sc.push r) (fun i hi => by rw [AH.push_row, if_neg (by omega)]) fun S hS => ⟨hS _ (Nat.le_refl _) (Nat.lt_succ_self _), by rw [AH.push_row, if_pos rfl]⟩
theorem Ow.tmp {B H : AH} {L : List Th} (h : Ow B H L) (r : Row) : Ow B (H.push r) L :=
  h.keep (Nat.le_succ _) (h.sc.push r) fun i hi => by rw [AH.push_row, if_neg (by omega)]
theorem Ow.pushSl {B H : AH} {L : List Th} (h : Ow B H L) {k n : Nat} {ty : TypeId} {vs : List Value} (hl : vs.length = n * k) : Ow B (H.push ⟨ty, true, vs⟩) (L ++ [.sl k ty (.slice (some ⟨H.next, 0, some k⟩) n n) n vs]) :=
  h.add _ (Nat.le_succ _) (h.sc.push _) (fun i hi => by rw [AH.push_row, if_neg (by omega)]) fun S hS => ⟨hl, .inr ⟨H.next, hS _ (Nat.le_refl _) (Nat.lt_succ_self _), rfl, by rw [AH.push_row, if_pos rfl]⟩⟩
theorem Ow.addNil {B H : AH} {L : List Th} (h : Ow B H L) (k : Nat) (ty : TypeId) : Ow B H (L ++ [.sl k ty (.slice none 0 0) 0 []]) :=
  h.add _ (Nat.le_refl _) h.sc (fun _ _ => rfl) fun S hS => ⟨by simp, .inl ⟨rfl, rfl⟩⟩
theorem Ow.put {B H : AH} {L : List Th} (h : Ow B H L) (k : Nat) {z n i m c o : Nat} {u : Option Nat} {ty : TypeId} {vs vs' : List Value} (hk : L[k]? = some (.sl z ty (.slice (some ⟨i, o, u⟩) m c) n vs)) (hl : vs'.length = vs.length) :
    Ow B (H.setCells i vs') (L.set k (.sl z ty (.slice (some ⟨i, o, u⟩) m c) n vs')) := by
  refine h.upd hk (Nat.le_refl _) (h.sc.set _ _) fun S hS hp => ?_
  have hi := sl_mem S hp
  refine ⟨fun j hj hjS => by rw [AH.setCells_row, if_neg (fun e => hjS (by rw [e]; exact hi))], fun S' hS' _ => ?_⟩
  rcases hp.2 with ⟨_, h1⟩ | ⟨i', h1, h2, h3⟩
  · cases h1
  · cases h2
    exact ⟨by rw [hl]; exact hp.1, .inr ⟨i, hS' i h1, rfl, by rw [AH.setCells_row, if_pos rfl, h3]; rfl⟩⟩
theorem Ow.putRow {B H : AH} {L : List Th} (h : Ow B H L) (k : Nat) {i : Nat} {ty : TypeId} {b : Bool} {cs cs' : List Value} (hk : L[k]? = some (.row i ⟨ty, b, cs⟩)) :
    Ow B (H.setCells i cs') (L.set k (.row i ⟨ty, b, cs'⟩)) := by
  refine h.upd hk (Nat.le_refl _) (h.sc.set _ _) fun S hS hp => ?_
  exact ⟨fun j hj hjS => by rw [AH.setCells_row, if_neg (fun e => hjS (by rw [e]; exact hp.1))], fun S' hS' _ => ⟨hS' i hp.1, by rw [AH.setCells_row, if_pos rfl, hp.2]; rfl⟩⟩
/-- A slice is kept by another name. -/
theorem Ow.row_sl {B H : AH} {L : List Th} (h : Ow B H L) (k : Nat) {i z n : Nat} {ty : TypeId} {cs : List Value} (hk : L[k]? = some (.row i ⟨ty, true, cs⟩)) (hl : cs.length = n * z) :
    Ow B H (L.set k (.sl z ty (.slice (some ⟨i, 0, some z⟩) n n) n cs)) :=
  h.upd hk (Nat.le_refl _) h.sc fun S hS hp => ⟨fun _ _ _ => rfl, fun S' hS' _ => ⟨hl, .inr ⟨i, hS' i hp.1, rfl, hp.2⟩⟩⟩

theorem Ow.app {P : Program} {E : TI} {z n c : Nat} {ty : TypeId} {B H : AH} {L : List Th} {v : Value} {vs ms : List Value} {K : Value → AH → Prop} (h : Ow B H L) (k : Nat) (hk : L[k]? = some (.sl z ty v n vs)) (hz : E.size = z) (hz0 : 0 < z) (hm : ms.length = c * z) (hc : 0 < c) (hb : E.bytes ≤ 32768) (hn : n + c ≤ 4294967296)
    (hK : ∀ v' H', H'.next = H.next + 1 → Ow B H' (L.set k (.sl z ty v' (n + c) (vs ++ ms))) → K v' H') : runOut P H (appE E ty v ms c H) K := by
  subst hz
  obtain ⟨S, hS, hp⟩ := h.at hk
  have hl := hp.1
  unfold appE
  rw [if_neg (by omega)]
  rcases hp.2 with ⟨rfl, rfl⟩ | ⟨i, h1, rfl, hr⟩
  · simp only [asSl_nil, runOut_need, runOut_val]
    have hv0 : vs = [] := List.eq_nil_of_length_eq_zero (by omega)
    subst hv0
    refine ⟨⟨by omega, hb⟩, hK _ _ rfl (h.upd hk (Nat.le_succ _) (h.sc.push _) fun S hS hp => ⟨fun j hj _ => by rw [AH.push_row, if_neg (by omega)], fun S' _ hN => ⟨by simp [hm], .inr ⟨H.next, hN _ (Nat.le_refl _) (Nat.lt_succ_self _), by simp, by rw [AH.push_row, if_pos rfl]; rfl⟩⟩⟩)⟩
  · simp only [asSl_some, hr, bindO_some, runOut_need, Nat.zero_add, hl]
    refine ⟨⟨by omega, hb, Nat.le_refl _, .inl rfl⟩, ?_⟩
    rw [if_neg (by rw [Nat.add_mul]; have := Nat.mul_pos hc hz0; omega)]
    simp only [runOut_need, runOut_val]
    refine ⟨⟨trivial, trivial, hz0, trivial, trivial⟩, hK _ _ rfl (h.upd hk (Nat.le_succ _) ((h.sc.drop i).push _) fun S hS hp => ?_)⟩
    have hi := sl_mem S hp
    refine ⟨fun j hj hjS => ?_, fun S' _ hN => ⟨by simp [hm, hl, Nat.add_mul], .inr ⟨H.next, hN _ (Nat.le_refl _) (Nat.lt_succ_self _), rfl, ?_⟩⟩⟩
    · rw [AH.push_row, if_neg (by rw [AH.drop_next]; omega), AH.drop_row, if_neg (fun e => hjS (by rw [e]; exact hi))]
    · rw [AH.push_row, AH.drop_next, if_pos rfl, seg_all _ _ hl.symm]

/-! ### From and to contracts with bounds -/
theorem Ow.of_fr {z n : Nat} {ty : TypeId} {H H' : AH} {v : Value} {l : List Int} (up : Up H.next H H') (sc : Sc H') (h : Fr z ty H.next H'.next H' v n l) : Ow H H' [.sl z ty v n (ints l)] := by
  refine ⟨sc, up.next, up.row, fun _ => 0, fun k p hk => ?_⟩
  have hk0 : k = 0 := by
    have := (List.getElem?_eq_some_iff.1 hk).1
    simp at this; omega
  subst hk0
  simp at hk
  subst hk
  exact ⟨by rw [ints_length]; exact h.1, h.2.imp id fun ⟨i, h1, h2, h3, h4⟩ => ⟨i, ⟨h1, h2, rfl⟩, h3, h4⟩⟩
theorem Ow.of_up {H H' : AH} (up : Up H.next H H') (sc : Sc H') : Ow H H' [] := ⟨sc, up.next, up.row, fun _ => 0, fun k p hk => by simp at hk⟩
end Go.Abs
end

section
set_option linter.unusedSimpArgs false
set_option linter.unusedVariables false
set_option maxRecDepth 100000
set_option maxHeartbeats 2000000
namespace Go.Proofs.Ytgkmdfjjlghecaa.A
open Go Go.Abs Go.RowKit

def canR (q : Int) (k : Nat) (l : List Int) (ll : List (List Int)) (a : Int) : Bool := schedB q k l && (resB q.toNat k l ll && decide (0 ≤ a ∧ a ≤ q - 1)) && firstB q.toNat k l ll a
def firstsN (n k : Nat) (l : List Int) (ll : List (List Int)) : Nat → List Int
  | 0 => []
  | b + 1 => firstsN n k l ll b ++ if firstB n k l ll b = true then [(b : Int)] else []
theorem firstsN_len (n k : Nat) (l : List Int) (ll : List (List Int)) : ∀ b, (firstsN n k l ll b).length ≤ b
  | 0 => Nat.le_refl _
  | b + 1 => by
    have := firstsN_len n k l ll b
    unfold firstsN
    rw [List.length_append]
    split <;> simp <;> omega
def firstsR (q : Int) (k : Nat) (l : List Int) (ll : List (List Int)) : List Int := if schedB q k l = true ∧ resB q.toNat k l ll = true then firstsN q.toNat k l ll q.toNat else []

theorem firstsR_length (q : Int) (k : Nat) (l : List Int) (ll : List (List Int)) : (firstsR q k l ll).length ≤ 14 := by
  unfold firstsR
  split
  · rename_i h
    obtain ⟨h2, _, _⟩ := schedB_at h.1
    have := firstsN_len q.toNat k l ll q.toNat
    omega
  · simp

theorem canCode_c (q : Int) (v : Value) (a : Int) (p0 p1 : Nat) (H : AH) (hq : 2 ≤ q ∧ q ≤ 14) (hone : v.oneCell' = true) (h0 : H.row p0 = some ⟨32, true, [.int .i64 q, v]⟩) (h1 : H.row p1 = some ⟨2, true, [.int .i64 a]⟩) :
    ACalls Try.prog 88 [.pointer (some ⟨p0, 0, none⟩), .pointer (some ⟨p1, 0, none⟩)] H (is (.bool (decide (0 ≤ a ∧ a ≤ q - 1))) H) := by
  refine acalls_of_awp [.tmp 2] Try.func88 (by kernel_rfl) rfl rfl (Nat.le_of_ble_eq_true rfl) (by kernel_rfl) ?_
  try simp (disch := first | omega | (simp only [ints_length, List.length_replicate, List.length_set]; done) | (simp only [ints_length, List.length_replicate, List.length_set]; omega)) only [Sall,evalOp,init,binE,binI,unE,convE,okNil,builtE,gv,TD.isAgg,resV,↓reduceIte,Nat.reduceEqDiff,reduceCtorEq,Nat.reduceAdd,Nat.reduceMul,Nat.reduceLeDiff,quietOp,blindOp,Int.reduceEq,Int.reduceLT,Int.reduceLE,Nat.reduceLT,ti2,ti3,ti4,ti45,ti46,ti38,ti25,ti30,ti22,ti32,ti24,ti95,ti172,ti169,ti165,ti166,ti65,ti143,ti87, h0, h1, hone]
  refine (hasTeam_c q v a H hq hone).to ?_
  try simp (disch := first | omega | (simp only [ints_length, List.length_replicate, List.length_set]; done) | (simp only [ints_length, List.length_replicate, List.length_set]; omega)) only [Sall,evalOp,init,binE,binI,unE,convE,okNil,builtE,gv,TD.isAgg,resV,↓reduceIte,Nat.reduceEqDiff,reduceCtorEq,Nat.reduceAdd,Nat.reduceMul,Nat.reduceLeDiff,quietOp,blindOp,Int.reduceEq,Int.reduceLT,Int.reduceLE,Nat.reduceLT,ti2,ti3,ti4,ti45,ti46,ti38,ti25,ti30,ti22,ti32,ti24,ti95,ti172,ti169,ti165,ti166,ti65,ti143,ti87, is]

theorem CanBeFirst_c (q : Int) (v : Value) (k : Nat) (l : List Int) (x : Value) (ll : List (List Int)) (a : Int) (H : AH) (hv : Rs 14 H v k l) (hk : k ≤ 4294967296) (hx : Rd2 1 H x ll) (hl : ll.length ≤ 4294967296) (hl2 : ∀ y ∈ ll, y.length ≤ 4294967296)
    (_ : -9223372036854775808 ≤ a ∧ a ≤ 9223372036854775807) :
    ACalls Try.prog 16 [.agg #[.int .i64 q, v], x, .int .i64 a] H (is (.tuple #[.bool (canR q k l ll a), .int .i64 (codeS q k l (resB q.toNat k l ll && decide (0 ≤ a ∧ a ≤ q - 1)))]) H) := by
  refine ACalls.wf (by kernel_rfl) fun hs => acalls_up (by simp [flat, Abs.scal]) (acalls_of_awp [.tmp 6, .tmp 7] Try.func16 (by kernel_rfl) rfl rfl (Nat.le_of_ble_eq_true rfl) (by kernel_rfl) ?_)
  have hone := hv.rd.one
  try simp (disch := first | omega | (simp only [ints_length, List.length_replicate, List.length_set]; done) | (simp only [ints_length, List.length_replicate, List.length_set]; omega)) only [Sall,evalOp,init,binE,binI,unE,convE,okNil,builtE,gv,TD.isAgg,resV,↓reduceIte,Nat.reduceEqDiff,reduceCtorEq,Nat.reduceAdd,Nat.reduceMul,Nat.reduceLeDiff,quietOp,blindOp,Int.reduceEq,Int.reduceLT,Int.reduceLE,Nat.reduceLT,ti2,ti3,ti4,ti45,ti46,ti38,ti25,ti30,ti22,ti32,ti24,ti95,ti172,ti169,ti165,ti166,ti65,ti143,ti87, hone]
  have o1 := ((Ow.refl hs).push ⟨32, true, [.int .i64 q, v]⟩).push ⟨2, true, [.int .i64 a]⟩
  obtain ⟨H1, eg⟩ : ∃ H1, H1 = (H.push ⟨32, true, [.int .i64 q, v]⟩).push ⟨2, true, [.int .i64 a]⟩ := ⟨_, rfl⟩
  rw [← eg] at o1 ⊢
  clear eg
  have g0 := (o1.rowAt 0 rfl).1
  have g1 := (o1.rowAt 1 rfl).1
  have hv1 := hv.same (o1.old hs)
  have hx1 := hx.same (o1.old hs)
  try simp (disch := first | omega | (simp only [ints_length, List.length_replicate, List.length_set]; done) | (simp only [ints_length, List.length_replicate, List.length_set]; omega)) only [Sall,evalOp,init,binE,binI,unE,convE,okNil,builtE,gv,TD.isAgg,resV,↓reduceIte,Nat.reduceEqDiff,reduceCtorEq,Nat.reduceAdd,Nat.reduceMul,Nat.reduceLeDiff,quietOp,blindOp,Int.reduceEq,Int.reduceLT,Int.reduceLE,Nat.reduceLT,ti2,ti3,ti4,ti45,ti46,ti38,ti25,ti30,ti22,ti32,ti24,ti95,ti172,ti169,ti165,ti166,ti65,ti143,ti87, hone, g0, List.mem_cons, List.not_mem_nil, or_false, forall_eq_or_imp, forall_eq, Array.size_empty]
  refine (resultsCode_c q v k l x ll 88 [.pointer (some ⟨H.next, 0, none⟩), .pointer (some ⟨H.next + 1, 0, none⟩)] (decide (0 ≤ a ∧ a ≤ q - 1)) H1 hv1.rd hk hx1 hl hl2 ?_).to ?_
  · intro H' up' hb _
    obtain ⟨h2, _, _⟩ := schedB_at hb
    exact canCode_c q v a _ _ H' h2 hone (by rw [up'.row _ (o1.rowAt 0 rfl).2.2, g0]) (by rw [up'.row _ (show H.next + 1 < H1.next from (o1.rowAt 1 rfl).2.2)]; exact g1)
  by_cases hok : schedB q k l = true ∧ (resB q.toNat k l ll && decide (0 ≤ a ∧ a ≤ q - 1)) = true
  · obtain ⟨hb, hok2⟩ := hok
    unfold canR
    rw [codeS_yes hb hok2, hb, hok2]
    rw [Bool.and_eq_true] at hok2
    obtain ⟨hres, hteam⟩ := hok2
    have hteam := of_decide_eq_true hteam
    obtain ⟨h2, hk40, _⟩ := schedB_at hb
    obtain ⟨n, rfl⟩ : ∃ n : Nat, q = n := ⟨q.toNat, by omega⟩
    rw [Int.toNat_natCast] at hres ⊢
    have g1' : H1.row (H.next + 1) = some ⟨2, true, [.int .i64 a]⟩ := g1
    try simp (disch := first | omega | (simp only [ints_length, List.length_replicate, List.length_set]; done) | (simp only [ints_length, List.length_replicate, List.length_set]; omega)) only [Sall,evalOp,init,binE,binI,unE,convE,okNil,builtE,gv,TD.isAgg,resV,↓reduceIte,Nat.reduceEqDiff,reduceCtorEq,Nat.reduceAdd,Nat.reduceMul,Nat.reduceLeDiff,quietOp,blindOp,Int.reduceEq,Int.reduceLT,Int.reduceLE,Nat.reduceLT,ti2,ti3,ti4,ti45,ti46,ti38,ti25,ti30,ti22,ti32,ti24,ti95,ti172,ti169,ti165,ti166,ti65,ti143,ti87, bne_self_eq_false, g0, g1', hone]
    refine (canBeFirst_c n v k l x ll a H1 hb hres hl hv1 hx1 ⟨by omega, by omega⟩).to ?_
    try simp (disch := first | omega | (simp only [ints_length, List.length_replicate, List.length_set]; done) | (simp only [ints_length, List.length_replicate, List.length_set]; omega)) only [Sall,evalOp,init,binE,binI,unE,convE,okNil,builtE,gv,TD.isAgg,resV,↓reduceIte,Nat.reduceEqDiff,reduceCtorEq,Nat.reduceAdd,Nat.reduceMul,Nat.reduceLeDiff,quietOp,blindOp,Int.reduceEq,Int.reduceLT,Int.reduceLE,Nat.reduceLT,ti2,ti3,ti4,ti45,ti46,ti38,ti25,ti30,ti22,ti32,ti24,ti95,ti172,ti169,ti165,ti166,ti65,ti143,ti87, Bool.true_and, Bool.and_self]
    exact o1.up
  · have ec := codeS_no hok
    have er : canR q k l ll a = false := by
      unfold canR
      rw [← Bool.not_eq_true, Bool.and_eq_true, Bool.and_eq_true]
      exact fun h => hok h.1
    rw [er]
    try simp (disch := first | omega | (simp only [ints_length, List.length_replicate, List.length_set]; done) | (simp only [ints_length, List.length_replicate, List.length_set]; omega)) only [Sall,evalOp,init,binE,binI,unE,convE,okNil,builtE,gv,TD.isAgg,resV,↓reduceIte,Nat.reduceEqDiff,reduceCtorEq,Nat.reduceAdd,Nat.reduceMul,Nat.reduceLeDiff,quietOp,blindOp,Int.reduceEq,Int.reduceLT,Int.reduceLE,Nat.reduceLT,ti2,ti3,ti4,ti45,ti46,ti38,ti25,ti30,ti22,ti32,ti24,ti95,ti172,ti169,ti165,ti166,ti65,ti143,ti87, ec]
    exact o1.up

theorem specCanBeFirst_c (q : Int) (v : Value) (k : Nat) (l : List Int) (x : Value) (ll : List (List Int)) (a : Int) (H : AH) (hv : Rd 14 H v k l) (hk : k ≤ 4294967296) (hx : Rd2 1 H x ll) (hl : ll.length ≤ 4294967296) (hl2 : ∀ y ∈ ll, y.length ≤ 4294967296)
    (_ : -9223372036854775808 ≤ a ∧ a ≤ 9223372036854775807) :
    ACalls Try.prog 13 [.agg #[.int .i64 q, v], x, .int .i64 a] H (is (.tuple #[.bool (canR q k l ll a), .int .i64 (codeS q k l (resB q.toNat k l ll && decide (0 ≤ a ∧ a ≤ q - 1)))]) H) := by
  refine ACalls.wf (by kernel_rfl) fun hs => acalls_up (by simp [flat, Abs.scal]) (acalls_of_awp [.tmp 6, .tmp 7] Try.func13 (by kernel_rfl) rfl rfl (Nat.le_of_ble_eq_true rfl) (by kernel_rfl) ?_)
  have hone := hv.one
  have zz : zeros 1 [.int .i64 0] = [.int .i64 0] := rfl
  try simp (disch := first | omega | (simp only [ints_length, List.length_replicate, List.length_set]; done) | (simp only [ints_length, List.length_replicate, List.length_set]; omega)) only [Sall,evalOp,init,binE,binI,unE,convE,okNil,builtE,gv,TD.isAgg,resV,↓reduceIte,Nat.reduceEqDiff,reduceCtorEq,Nat.reduceAdd,Nat.reduceMul,Nat.reduceLeDiff,quietOp,blindOp,Int.reduceEq,Int.reduceLT,Int.reduceLE,Nat.reduceLT,ti2,ti3,ti4,ti45,ti46,ti38,ti25,ti30,ti22,ti32,ti24,ti95,ti172,ti169,ti165,ti166,ti65,ti143,ti87, hone, zz]
  have o1 := ((Ow.refl hs).push ⟨32, true, [.int .i64 q, v]⟩).pushSl (k := 1) (n := 1) (ty := 2) (vs := ints [a]) rfl
  obtain ⟨H1, eg⟩ : ∃ H1, H1 = (H.push ⟨32, true, [.int .i64 q, v]⟩).push ⟨2, true, ints [a]⟩ := ⟨_, rfl⟩
  rw [← eg] at o1
  have eg' : (H.push ⟨32, true, [.int .i64 q, v]⟩).push ⟨2, true, [.int .i64 a]⟩ = H1 := eg.symm
  rw [eg']
  clear eg eg'
  have g0 := (o1.rowAt 0 rfl).1
  have hv1 := hv.same (o1.old hs)
  have hx1 := hx.same (o1.old hs)
  refine (l10Code_c q v k l x ll _ 1 [a] H1 hv1 hk hx1 hl hl2 (o1.rd 1 rfl) (by omega)).to ?_
  have eall : ((List.range 1).all fun i => decide (0 ≤ [a].getD i 0 ∧ [a].getD i 0 ≤ q - 1)) = decide (0 ≤ a ∧ a ≤ q - 1) := by
    show (decide (0 ≤ a ∧ a ≤ q - 1) && true) = _
    rw [Bool.and_true]
  rw [eall]
  by_cases hok : schedB q k l = true ∧ (resB q.toNat k l ll && decide (0 ≤ a ∧ a ≤ q - 1)) = true
  · obtain ⟨hb, hok2⟩ := hok
    unfold canR
    rw [codeS_yes hb hok2, hb, hok2]
    rw [Bool.and_eq_true] at hok2
    obtain ⟨hres, hteam⟩ := hok2
    have hteam := of_decide_eq_true hteam
    obtain ⟨h2, hk40, _⟩ := schedB_at hb
    obtain ⟨n, rfl⟩ : ∃ n : Nat, q = n := ⟨q.toNat, by omega⟩
    rw [Int.toNat_natCast] at hres ⊢
    try simp (disch := first | omega | (simp only [ints_length, List.length_replicate, List.length_set]; done) | (simp only [ints_length, List.length_replicate, List.length_set]; omega)) only [Sall,evalOp,init,binE,binI,unE,convE,okNil,builtE,gv,TD.isAgg,resV,↓reduceIte,Nat.reduceEqDiff,reduceCtorEq,Nat.reduceAdd,Nat.reduceMul,Nat.reduceLeDiff,quietOp,blindOp,Int.reduceEq,Int.reduceLT,Int.reduceLE,Nat.reduceLT,ti2,ti3,ti4,ti45,ti46,ti38,ti25,ti30,ti22,ti32,ti24,ti95,ti172,ti169,ti165,ti166,ti65,ti143,ti87, bne_self_eq_false, g0, hone]
    refine (l10First_c n v k l x ll a H1 hb hres hl hv1 hx1 ⟨by omega, by omega⟩).to ?_
    try simp (disch := first | omega | (simp only [ints_length, List.length_replicate, List.length_set]; done) | (simp only [ints_length, List.length_replicate, List.length_set]; omega)) only [Sall,evalOp,init,binE,binI,unE,convE,okNil,builtE,gv,TD.isAgg,resV,↓reduceIte,Nat.reduceEqDiff,reduceCtorEq,Nat.reduceAdd,Nat.reduceMul,Nat.reduceLeDiff,quietOp,blindOp,Int.reduceEq,Int.reduceLT,Int.reduceLE,Nat.reduceLT,ti2,ti3,ti4,ti45,ti46,ti38,ti25,ti30,ti22,ti32,ti24,ti95,ti172,ti169,ti165,ti166,ti65,ti143,ti87, Bool.true_and, Bool.and_self]
    exact o1.up
  · have ec := codeS_no hok
    have er : canR q k l ll a = false := by
      unfold canR
      rw [← Bool.not_eq_true, Bool.and_eq_true, Bool.and_eq_true]
      exact fun h => hok h.1
    rw [er]
    try simp (disch := first | omega | (simp only [ints_length, List.length_replicate, List.length_set]; done) | (simp only [ints_length, List.length_replicate, List.length_set]; omega)) only [Sall,evalOp,init,binE,binI,unE,convE,okNil,builtE,gv,TD.isAgg,resV,↓reduceIte,Nat.reduceEqDiff,reduceCtorEq,Nat.reduceAdd,Nat.reduceMul,Nat.reduceLeDiff,quietOp,blindOp,Int.reduceEq,Int.reduceLT,Int.reduceLE,Nat.reduceLT,ti2,ti3,ti4,ti45,ti46,ti38,ti25,ti30,ti22,ti32,ti24,ti95,ti172,ti169,ti165,ti166,ti65,ti143,ti87, ec]
    exact o1.up

theorem FirstTeams_c (q : Int) (v : Value) (k : Nat) (l : List Int) (x : Value) (ll : List (List Int)) (H : AH) (hv : Rs 14 H v k l) (hk : k ≤ 4294967296) (hx : Rd2 1 H x ll) (hl : ll.length ≤ 4294967296) (hl2 : ∀ y ∈ ll, y.length ≤ 4294967296) :
    ACalls Try.prog 20 [.agg #[.int .i64 q, v], x] H (fun r H' => ∃ u, r = .tuple #[u, .int .i64 (codeS q k l (resB q.toNat k l ll))] ∧ Up H.next H H' ∧ Fr 1 2 H.next H'.next H' u (firstsR q k l ll).length (firstsR q k l ll)) := by
  refine ACalls.wf (by kernel_rfl) fun hs => acalls_of_awp [.tmp 4, .tmp 5] Try.func20 (by kernel_rfl) rfl rfl (Nat.le_of_ble_eq_true rfl) (by kernel_rfl) ?_
  have hone := hv.rd.one
  try simp (disch := first | omega | (simp only [ints_length, List.length_replicate, List.length_set]; done) | (simp only [ints_length, List.length_replicate, List.length_set]; omega)) only [Sall,evalOp,init,binE,binI,unE,convE,okNil,builtE,gv,TD.isAgg,resV,↓reduceIte,Nat.reduceEqDiff,reduceCtorEq,Nat.reduceAdd,Nat.reduceMul,Nat.reduceLeDiff,quietOp,blindOp,Int.reduceEq,Int.reduceLT,Int.reduceLE,Nat.reduceLT,ti2,ti3,ti4,ti45,ti46,ti38,ti25,ti30,ti22,ti32,ti24,ti95,ti172,ti169,ti165,ti166,ti65,ti143,ti87, hone]
  have o1 := (Ow.refl hs).push ⟨32, true, [.int .i64 q, v]⟩
  revert o1
  generalize H.push ⟨32, true, [.int .i64 q, v]⟩ = H1
  intro o1
  have hv1 := hv.same (o1.old hs)
  have hx1 := hx.same (o1.old hs)
  have g0 := (o1.rowAt 0 rfl).1
  refine (resultsCode_c q v k l x ll 92 [] true H1 hv1.rd hk hx1 hl hl2 fun H' _ _ _ => always_c H').to ?_
  rw [Bool.and_true]
  by_cases hok : schedB q k l = true ∧ resB q.toNat k l ll = true
  · obtain ⟨hb, hres⟩ := hok
    obtain ⟨h2, _, _⟩ := schedB_at hb
    obtain ⟨n, rfl⟩ : ∃ n : Nat, q = n := ⟨q.toNat, by omega⟩
    unfold firstsR
    rw [if_pos ⟨hb, hres⟩, codeS_yes hb hres]
    rw [Int.toNat_natCast] at hres ⊢
    have ne1 : ¬ H.next = H1.next := by have := (o1.rowAt 0 rfl).2.2; omega
    try simp (disch := first | omega | (simp only [ints_length, List.length_replicate, List.length_set]; done) | (simp only [ints_length, List.length_replicate, List.length_set]; omega)) only [Sall,evalOp,init,binE,binI,unE,convE,okNil,builtE,gv,TD.isAgg,resV,↓reduceIte,Nat.reduceEqDiff,reduceCtorEq,Nat.reduceAdd,Nat.reduceMul,Nat.reduceLeDiff,quietOp,blindOp,Int.reduceEq,Int.reduceLT,Int.reduceLE,Nat.reduceLT,ti2,ti3,ti4,ti45,ti46,ti38,ti25,ti30,ti22,ti32,ti24,ti95,ti172,ti169,ti165,ti166,ti65,ti143,ti87, bne_self_eq_false, g0, zeros_zero, ne1]
    have o2 := o1.pushSl (k := 1) (n := 0) (ty := 2) (vs := []) rfl
    revert o2
    generalize H1.push ⟨2, true, []⟩ = H2
    intro o2
    refine awp_loop (fun z t H' => ∃ (b : Nat) (u : Value), z = n - b ∧ b ≤ n ∧ t 18 = .int .i64 b ∧ t 17 = .int .i64 n ∧ t 7 = u ∧ t 1 = x ∧ t 2 = .pointer (some ⟨H.next, 0, none⟩) ∧
      Ow H H' [.row H.next ⟨32, true, [.int .i64 n, v]⟩, .sl 1 2 u (firstsN n k l ll b).length (ints (firstsN n k l ll b))]) n ?_ ?_
    · refine ⟨0, .slice (some ⟨H1.next, 0, some 1⟩) 0 0, by omega, by omega, ?_⟩
      try simp (disch := first | omega | (simp only [ints_length, List.length_replicate, List.length_set]; done) | (simp only [ints_length, List.length_replicate, List.length_set]; omega)) only [Sall,evalOp,init,binE,binI,unE,convE,okNil,builtE,gv,TD.isAgg,resV,↓reduceIte,Nat.reduceEqDiff,reduceCtorEq,Nat.reduceAdd,Nat.reduceMul,Nat.reduceLeDiff,quietOp,blindOp,Int.reduceEq,Int.reduceLT,Int.reduceLE,Nat.reduceLT,ti2,ti3,ti4,ti45,ti46,ti38,ti25,ti30,ti22,ti32,ti24,ti95,ti172,ti169,ti165,ti166,ti65,ti143,ti87, Int.natCast_zero]
      exact o2
    · rintro z t H' ⟨b, u, hz, hbn, h18, h17, h7, h1, h2', o3⟩
      have g3 := (o3.rowAt 0 rfl).1
      try simp (disch := first | omega | (simp only [ints_length, List.length_replicate, List.length_set]; done) | (simp only [ints_length, List.length_replicate, List.length_set]; omega)) only [Sall,evalOp,init,binE,binI,unE,convE,okNil,builtE,gv,TD.isAgg,resV,↓reduceIte,Nat.reduceEqDiff,reduceCtorEq,Nat.reduceAdd,Nat.reduceMul,Nat.reduceLeDiff,quietOp,blindOp,Int.reduceEq,Int.reduceLT,Int.reduceLE,Nat.reduceLT,ti2,ti3,ti4,ti45,ti46,ti38,ti25,ti30,ti22,ti32,ti24,ti95,ti172,ti169,ti165,ti166,ti65,ti143,ti87, h18, h17]
      refine condC_dec (fun hh => ?_) (fun hh => ?_)
      · try simp (disch := first | omega | (simp only [ints_length, List.length_replicate, List.length_set]; done) | (simp only [ints_length, List.length_replicate, List.length_set]; omega)) only [Sall,evalOp,init,binE,binI,unE,convE,okNil,builtE,gv,TD.isAgg,resV,↓reduceIte,Nat.reduceEqDiff,reduceCtorEq,Nat.reduceAdd,Nat.reduceMul,Nat.reduceLeDiff,quietOp,blindOp,Int.reduceEq,Int.reduceLT,Int.reduceLE,Nat.reduceLT,ti2,ti3,ti4,ti45,ti46,ti38,ti25,ti30,ti22,ti32,ti24,ti95,ti172,ti169,ti165,ti166,ti65,ti143,ti87, h18, h1, h2', g3, hone]
        refine (canBeFirst_c n v k l x ll b H' hb hres hl (hv.same (o3.old hs)) (hx.same (o3.old hs)) ⟨by omega, by omega⟩).to ?_
        have hfl := firstsN_len n k l ll b
        have es : firstsN n k l ll (b + 1) = firstsN n k l ll b ++ if firstB n k l ll b = true then [(b : Int)] else [] := rfl
        obtain hc | hc : firstB n k l ll b = true ∨ firstB n k l ll b = false := by cases firstB n k l ll b <;> simp
        · rw [if_pos hc] at es
          have zz : zeros 1 [.int .i64 0] = [.int .i64 0] := rfl
          try simp (disch := first | omega | (simp only [ints_length, List.length_replicate, List.length_set]; done) | (simp only [ints_length, List.length_replicate, List.length_set]; omega)) only [Sall,evalOp,init,binE,binI,unE,convE,okNil,builtE,gv,TD.isAgg,resV,↓reduceIte,Nat.reduceEqDiff,reduceCtorEq,Nat.reduceAdd,Nat.reduceMul,Nat.reduceLeDiff,quietOp,blindOp,Int.reduceEq,Int.reduceLT,Int.reduceLE,Nat.reduceLT,ti2,ti3,ti4,ti45,ti46,ti38,ti25,ti30,ti22,ti32,ti24,ti95,ti172,ti169,ti165,ti166,ti65,ti143,ti87, hc, h18, h17, h7, h1, h2', zz, slCells]
          (repeat refine And.intro (by omega) ?_)
          refine (o3.tmp ⟨2, true, [.int .i64 b]⟩).app 1 rfl rfl (by omega) rfl (by omega) (by decide) (by omega) ?_
          intro v' H4 n4 o4
          try simp (disch := first | omega | (simp only [ints_length, List.length_replicate, List.length_set]; done) | (simp only [ints_length, List.length_replicate, List.length_set]; omega)) only [Sall,evalOp,init,binE,binI,unE,convE,okNil,builtE,gv,TD.isAgg,resV,↓reduceIte,Nat.reduceEqDiff,reduceCtorEq,Nat.reduceAdd,Nat.reduceMul,Nat.reduceLeDiff,quietOp,blindOp,Int.reduceEq,Int.reduceLT,Int.reduceLE,Nat.reduceLT,ti2,ti3,ti4,ti45,ti46,ti38,ti25,ti30,ti22,ti32,ti24,ti95,ti172,ti169,ti165,ti166,ti65,ti143,ti87, h18, h17, h7, h1, h2', w64]
          exact ⟨n - (b + 1), by omega, b + 1, v', rfl, by omega, by omega, rfl, by rw [es, List.length_append, ← ints_append]; exact o4⟩
        · rw [if_neg (by rw [hc]; simp), List.append_nil] at es
          try simp (disch := first | omega | (simp only [ints_length, List.length_replicate, List.length_set]; done) | (simp only [ints_length, List.length_replicate, List.length_set]; omega)) only [Sall,evalOp,init,binE,binI,unE,convE,okNil,builtE,gv,TD.isAgg,resV,↓reduceIte,Nat.reduceEqDiff,reduceCtorEq,Nat.reduceAdd,Nat.reduceMul,Nat.reduceLeDiff,quietOp,blindOp,Int.reduceEq,Int.reduceLT,Int.reduceLE,Nat.reduceLT,ti2,ti3,ti4,ti45,ti46,ti38,ti25,ti30,ti22,ti32,ti24,ti95,ti172,ti169,ti165,ti166,ti65,ti143,ti87, hc, h18, h17, h7, h1, h2', w64]
          exact ⟨n - (b + 1), by omega, b + 1, u, rfl, by omega, by omega, rfl, by rw [es]; exact o3⟩
      · have hbe : b = n := by omega
        subst hbe
        have hu := o3.one 1 rfl
        try simp (disch := first | omega | (simp only [ints_length, List.length_replicate, List.length_set]; done) | (simp only [ints_length, List.length_replicate, List.length_set]; omega)) only [Sall,evalOp,init,binE,binI,unE,convE,okNil,builtE,gv,TD.isAgg,resV,↓reduceIte,Nat.reduceEqDiff,reduceCtorEq,Nat.reduceAdd,Nat.reduceMul,Nat.reduceLeDiff,quietOp,blindOp,Int.reduceEq,Int.reduceLT,Int.reduceLE,Nat.reduceLT,ti2,ti3,ti4,ti45,ti46,ti38,ti25,ti30,ti22,ti32,ti24,ti95,ti172,ti169,ti165,ti166,ti65,ti143,ti87, h7, hu]
        exact ⟨u, rfl, o3.up, o3.fr 1 rfl⟩
  · have ec := codeS_no hok
    unfold firstsR
    rw [if_neg hok]
    try simp (disch := first | omega | (simp only [ints_length, List.length_replicate, List.length_set]; done) | (simp only [ints_length, List.length_replicate, List.length_set]; omega)) only [Sall,evalOp,init,binE,binI,unE,convE,okNil,builtE,gv,TD.isAgg,resV,↓reduceIte,Nat.reduceEqDiff,reduceCtorEq,Nat.reduceAdd,Nat.reduceMul,Nat.reduceLeDiff,quietOp,blindOp,Int.reduceEq,Int.reduceLT,Int.reduceLE,Nat.reduceLT,ti2,ti3,ti4,ti45,ti46,ti38,ti25,ti30,ti22,ti32,ti24,ti95,ti172,ti169,ti165,ti166,ti65,ti143,ti87, ec]
    exact ⟨_, rfl, o1.up, fr_nil _ _ _ _⟩

theorem specFirstTeams_c (q : Int) (v : Value) (k : Nat) (l : List Int) (x : Value) (ll : List (List Int)) (H : AH) (hv : Rd 14 H v k l) (hk : k ≤ 4294967296) (hx : Rd2 1 H x ll) (hl : ll.length ≤ 4294967296) (hl2 : ∀ y ∈ ll, y.length ≤ 4294967296) :
    ACalls Try.prog 19 [.agg #[.int .i64 q, v], x] H (fun r H' => ∃ u, r = .tuple #[u, .int .i64 (codeS q k l (resB q.toNat k l ll))] ∧ Up H.next H H' ∧ Fr 1 2 H.next H'.next H' u (firstsR q k l ll).length (firstsR q k l ll)) := by
  refine ACalls.wf (by kernel_rfl) fun hs => acalls_of_awp [.tmp 4, .tmp 5] Try.func19 (by kernel_rfl) rfl rfl (Nat.le_of_ble_eq_true rfl) (by kernel_rfl) ?_
  have hone := hv.one
  try simp (disch := first | omega | (simp only [ints_length, List.length_replicate, List.length_set]; done) | (simp only [ints_length, List.length_replicate, List.length_set]; omega)) only [Sall,evalOp,init,binE,binI,unE,convE,okNil,builtE,gv,TD.isAgg,resV,↓reduceIte,Nat.reduceEqDiff,reduceCtorEq,Nat.reduceAdd,Nat.reduceMul,Nat.reduceLeDiff,quietOp,blindOp,Int.reduceEq,Int.reduceLT,Int.reduceLE,Nat.reduceLT,ti2,ti3,ti4,ti45,ti46,ti38,ti25,ti30,ti22,ti32,ti24,ti95,ti172,ti169,ti165,ti166,ti65,ti143,ti87, hone]
  have o1 := (Ow.refl hs).push ⟨32, true, [.int .i64 q, v]⟩
  revert o1
  generalize H.push ⟨32, true, [.int .i64 q, v]⟩ = H1
  intro o1
  have hv1 := hv.same (o1.old hs)
  have hx1 := hx.same (o1.old hs)
  have g0 := (o1.rowAt 0 rfl).1
  refine (l10Code_c q v k l x ll (.slice none 0 0) 0 [] H1 hv1 hk hx1 hl hl2 (fr_nil 0 0 0 _).rd (by omega)).to ?_
  rw [show (resB q.toNat k l ll && (List.range 0).all fun i => decide (0 ≤ ([] : List Int).getD i 0 ∧ ([] : List Int).getD i 0 ≤ q - 1)) = resB q.toNat k l ll from Bool.and_true _]
  by_cases hok : schedB q k l = true ∧ resB q.toNat k l ll = true
  · obtain ⟨hb, hres⟩ := hok
    obtain ⟨h2, _, _⟩ := schedB_at hb
    obtain ⟨n, rfl⟩ : ∃ n : Nat, q = n := ⟨q.toNat, by omega⟩
    unfold firstsR
    rw [if_pos ⟨hb, hres⟩, codeS_yes hb hres]
    rw [Int.toNat_natCast] at hres ⊢
    try simp (disch := first | omega | (simp only [ints_length, List.length_replicate, List.length_set]; done) | (simp only [ints_length, List.length_replicate, List.length_set]; omega)) only [Sall,evalOp,init,binE,binI,unE,convE,okNil,builtE,gv,TD.isAgg,resV,↓reduceIte,Nat.reduceEqDiff,reduceCtorEq,Nat.reduceAdd,Nat.reduceMul,Nat.reduceLeDiff,quietOp,blindOp,Int.reduceEq,Int.reduceLT,Int.reduceLE,Nat.reduceLT,ti2,ti3,ti4,ti45,ti46,ti38,ti25,ti30,ti22,ti32,ti24,ti95,ti172,ti169,ti165,ti166,ti65,ti143,ti87, bne_self_eq_false, g0, zeros_zero]
    have o2 := o1.pushSl (k := 1) (n := 0) (ty := 2) (vs := []) rfl
    revert o2
    generalize H1.push ⟨2, true, []⟩ = H2
    intro o2
    refine awp_loop (fun z t H' => ∃ (b : Nat) (u : Value), z = n - b ∧ b ≤ n ∧ t 8 = .int .i64 b ∧ t 7 = u ∧ t 1 = x ∧ t 2 = .pointer (some ⟨H.next, 0, none⟩) ∧
      Ow H H' [.row H.next ⟨32, true, [.int .i64 n, v]⟩, .sl 1 2 u (firstsN n k l ll b).length (ints (firstsN n k l ll b))]) n ?_ ?_
    · refine ⟨0, .slice (some ⟨H1.next, 0, some 1⟩) 0 0, by omega, by omega, ?_⟩
      try simp (disch := first | omega | (simp only [ints_length, List.length_replicate, List.length_set]; done) | (simp only [ints_length, List.length_replicate, List.length_set]; omega)) only [Sall,evalOp,init,binE,binI,unE,convE,okNil,builtE,gv,TD.isAgg,resV,↓reduceIte,Nat.reduceEqDiff,reduceCtorEq,Nat.reduceAdd,Nat.reduceMul,Nat.reduceLeDiff,quietOp,blindOp,Int.reduceEq,Int.reduceLT,Int.reduceLE,Nat.reduceLT,ti2,ti3,ti4,ti45,ti46,ti38,ti25,ti30,ti22,ti32,ti24,ti95,ti172,ti169,ti165,ti166,ti65,ti143,ti87, Int.natCast_zero]
      exact o2
    · rintro z t H' ⟨b, u, hz, hbn, h8, h7, h1, h2', o3⟩
      have g3 := (o3.rowAt 0 rfl).1
      try simp (disch := first | omega | (simp only [ints_length, List.length_replicate, List.length_set]; done) | (simp only [ints_length, List.length_replicate, List.length_set]; omega)) only [Sall,evalOp,init,binE,binI,unE,convE,okNil,builtE,gv,TD.isAgg,resV,↓reduceIte,Nat.reduceEqDiff,reduceCtorEq,Nat.reduceAdd,Nat.reduceMul,Nat.reduceLeDiff,quietOp,blindOp,Int.reduceEq,Int.reduceLT,Int.reduceLE,Nat.reduceLT,ti2,ti3,ti4,ti45,ti46,ti38,ti25,ti30,ti22,ti32,ti24,ti95,ti172,ti169,ti165,ti166,ti65,ti143,ti87, h8, h2', g3]
      refine condC_dec (fun hh => ?_) (fun hh => ?_)
      · try simp (disch := first | omega | (simp only [ints_length, List.length_replicate, List.length_set]; done) | (simp only [ints_length, List.length_replicate, List.length_set]; omega)) only [Sall,evalOp,init,binE,binI,unE,convE,okNil,builtE,gv,TD.isAgg,resV,↓reduceIte,Nat.reduceEqDiff,reduceCtorEq,Nat.reduceAdd,Nat.reduceMul,Nat.reduceLeDiff,quietOp,blindOp,Int.reduceEq,Int.reduceLT,Int.reduceLE,Nat.reduceLT,ti2,ti3,ti4,ti45,ti46,ti38,ti25,ti30,ti22,ti32,ti24,ti95,ti172,ti169,ti165,ti166,ti65,ti143,ti87, h8, h1, h2', g3, hone]
        refine (l10First_c n v k l x ll b H' hb hres hl (hv.same (o3.old hs)) (hx.same (o3.old hs)) ⟨by omega, by omega⟩).to ?_
        have hfl := firstsN_len n k l ll b
        have es : firstsN n k l ll (b + 1) = firstsN n k l ll b ++ if firstB n k l ll b = true then [(b : Int)] else [] := rfl
        obtain hc | hc : firstB n k l ll b = true ∨ firstB n k l ll b = false := by cases firstB n k l ll b <;> simp
        · rw [if_pos hc] at es
          have zz : zeros 1 [.int .i64 0] = [.int .i64 0] := rfl
          try simp (disch := first | omega | (simp only [ints_length, List.length_replicate, List.length_set]; done) | (simp only [ints_length, List.length_replicate, List.length_set]; omega)) only [Sall,evalOp,init,binE,binI,unE,convE,okNil,builtE,gv,TD.isAgg,resV,↓reduceIte,Nat.reduceEqDiff,reduceCtorEq,Nat.reduceAdd,Nat.reduceMul,Nat.reduceLeDiff,quietOp,blindOp,Int.reduceEq,Int.reduceLT,Int.reduceLE,Nat.reduceLT,ti2,ti3,ti4,ti45,ti46,ti38,ti25,ti30,ti22,ti32,ti24,ti95,ti172,ti169,ti165,ti166,ti65,ti143,ti87, hc, h8, h7, h1, h2', zz, slCells]
          (repeat refine And.intro (by omega) ?_)
          refine (o3.tmp ⟨2, true, [.int .i64 b]⟩).app 1 rfl rfl (by omega) rfl (by omega) (by decide) (by omega) ?_
          intro v' H4 n4 o4
          try simp (disch := first | omega | (simp only [ints_length, List.length_replicate, List.length_set]; done) | (simp only [ints_length, List.length_replicate, List.length_set]; omega)) only [Sall,evalOp,init,binE,binI,unE,convE,okNil,builtE,gv,TD.isAgg,resV,↓reduceIte,Nat.reduceEqDiff,reduceCtorEq,Nat.reduceAdd,Nat.reduceMul,Nat.reduceLeDiff,quietOp,blindOp,Int.reduceEq,Int.reduceLT,Int.reduceLE,Nat.reduceLT,ti2,ti3,ti4,ti45,ti46,ti38,ti25,ti30,ti22,ti32,ti24,ti95,ti172,ti169,ti165,ti166,ti65,ti143,ti87, h8, h7, h1, h2', w64]
          exact ⟨n - (b + 1), by omega, b + 1, v', rfl, by omega, by omega, rfl, by rw [es, List.length_append, ← ints_append]; exact o4⟩
        · rw [if_neg (by rw [hc]; simp), List.append_nil] at es
          try simp (disch := first | omega | (simp only [ints_length, List.length_replicate, List.length_set]; done) | (simp only [ints_length, List.length_replicate, List.length_set]; omega)) only [Sall,evalOp,init,binE,binI,unE,convE,okNil,builtE,gv,TD.isAgg,resV,↓reduceIte,Nat.reduceEqDiff,reduceCtorEq,Nat.reduceAdd,Nat.reduceMul,Nat.reduceLeDiff,quietOp,blindOp,Int.reduceEq,Int.reduceLT,Int.reduceLE,Nat.reduceLT,ti2,ti3,ti4,ti45,ti46,ti38,ti25,ti30,ti22,ti32,ti24,ti95,ti172,ti169,ti165,ti166,ti65,ti143,ti87, hc, h8, h7, h1, h2', w64]
          exact ⟨n - (b + 1), by omega, b + 1, u, rfl, by omega, by omega, rfl, by rw [es]; exact o3⟩
      · have hbe : b = n := by omega
        subst hbe
        have hu := o3.one 1 rfl
        try simp (disch := first | omega | (simp only [ints_length, List.length_replicate, List.length_set]; done) | (simp only [ints_length, List.length_replicate, List.length_set]; omega)) only [Sall,evalOp,init,binE,binI,unE,convE,okNil,builtE,gv,TD.isAgg,resV,↓reduceIte,Nat.reduceEqDiff,reduceCtorEq,Nat.reduceAdd,Nat.reduceMul,Nat.reduceLeDiff,quietOp,blindOp,Int.reduceEq,Int.reduceLT,Int.reduceLE,Nat.reduceLT,ti2,ti3,ti4,ti45,ti46,ti38,ti25,ti30,ti22,ti32,ti24,ti95,ti172,ti169,ti165,ti166,ti65,ti143,ti87, h7, hu]
        exact ⟨u, rfl, o3.up, o3.fr 1 rfl⟩
  · have ec := codeS_no hok
    unfold firstsR
    rw [if_neg hok]
    try simp (disch := first | omega | (simp only [ints_length, List.length_replicate, List.length_set]; done) | (simp only [ints_length, List.length_replicate, List.length_set]; omega)) only [Sall,evalOp,init,binE,binI,unE,convE,okNil,builtE,gv,TD.isAgg,resV,↓reduceIte,Nat.reduceEqDiff,reduceCtorEq,Nat.reduceAdd,Nat.reduceMul,Nat.reduceLeDiff,quietOp,blindOp,Int.reduceEq,Int.reduceLT,Int.reduceLE,Nat.reduceLT,ti2,ti3,ti4,ti45,ti46,ti38,ti25,ti30,ti22,ti32,ti24,ti95,ti172,ti169,ti165,ti166,ti65,ti143,ti87, ec]
    exact ⟨_, rfl, o1.up, fr_nil _ _ _ _⟩
end Go.Proofs.Ytgkmdfjjlghecaa.A
end

section
set_option linter.unusedSimpArgs false
set_option linter.unusedVariables false
set_option maxRecDepth 100000
namespace Go.Proofs.Ytgkmdfjjlghecaa.A
open Go Go.Abs Go.RowKit

theorem eqRound_c (l : List Int) (hl : l.length = 14) (H : AH) : ACalls Try.prog 28 [.agg (ints l).toArray, .agg (ints l).toArray] H (is (.bool true) H) := by
  refine acalls_up rfl (acalls_of_awp [.tmp 4] Try.func28 (by kernel_rfl) rfl rfl (Nat.le_of_ble_eq_true rfl) (by kernel_rfl) ?_)
  try simp (disch := first | omega | (simp only [ints_length, List.length_replicate]; done) | (simp only [ints_length, List.length_replicate]; omega)) only [Sall,evalOp,init,binE,binI,unE,convE,okNil,builtE,gv,TD.isAgg,resV,↓reduceIte,Nat.reduceEqDiff,reduceCtorEq,Nat.reduceAdd,Nat.reduceMul,Nat.reduceLeDiff,quietOp,blindOp,Int.reduceEq,Int.reduceLT,Int.reduceLE,Nat.reduceLT,ti2,ti3,ti4,ti45,ti46,ti38,ti25,ti30,ti22,ti32,ti24,ti95,ti172,ti169,ti165,ti166,ti65,ti143,ti87, true_and]
  refine awp_loop (fun m t H' => ∃ a : Int, m = (14 - a).toNat ∧ 0 ≤ a ∧ a ≤ 14 ∧ t 5 = .int .i64 a ∧ t 2 = .pointer (some ⟨H.next, 0, none⟩) ∧ t 3 = .pointer (some ⟨H.next + 1, 0, none⟩) ∧ Up H.next H H' ∧
    H'.row H.next = some ⟨46, true, ints l⟩ ∧ H'.row (H.next + 1) = some ⟨46, true, ints l⟩) 14 ?_ ?_
  · refine ⟨0, by omega, by omega, by omega, ?_⟩
    try simp (disch := first | omega | (simp only [ints_length, List.length_replicate]; done) | (simp only [ints_length, List.length_replicate]; omega)) only [Sall,evalOp,init,binE,binI,unE,convE,okNil,builtE,gv,TD.isAgg,resV,↓reduceIte,Nat.reduceEqDiff,reduceCtorEq,Nat.reduceAdd,Nat.reduceMul,Nat.reduceLeDiff,quietOp,blindOp,Int.reduceEq,Int.reduceLT,Int.reduceLE,Nat.reduceLT,ti2,ti3,ti4,ti45,ti46,ti38,ti25,ti30,ti22,ti32,ti24,ti95,ti172,ti169,ti165,ti166,ti65,ti143,ti87, true_and]
    exact ((Up.refl _ H).push (by omega) _).push (Nat.le_succ _) _
  · rintro m t H' ⟨a, hm, h0, h14, h5, h2, h3, hup, hr0, hr1⟩
    try simp (disch := first | omega | (simp only [ints_length, List.length_replicate]; done) | (simp only [ints_length, List.length_replicate]; omega)) only [Sall,evalOp,init,binE,binI,unE,convE,okNil,builtE,gv,TD.isAgg,resV,↓reduceIte,Nat.reduceEqDiff,reduceCtorEq,Nat.reduceAdd,Nat.reduceMul,Nat.reduceLeDiff,quietOp,blindOp,Int.reduceEq,Int.reduceLT,Int.reduceLE,Nat.reduceLT,ti2,ti3,ti4,ti45,ti46,ti38,ti25,ti30,ti22,ti32,ti24,ti95,ti172,ti169,ti165,ti166,ti65,ti143,ti87, h5]
    refine condC_dec (fun h => ?_) (fun h => ?_)
    · skip
      try simp (disch := first | omega | (simp only [ints_length, List.length_replicate]; done) | (simp only [ints_length, List.length_replicate]; omega)) only [Sall,evalOp,init,binE,binI,unE,convE,okNil,builtE,gv,TD.isAgg,resV,↓reduceIte,Nat.reduceEqDiff,reduceCtorEq,Nat.reduceAdd,Nat.reduceMul,Nat.reduceLeDiff,quietOp,blindOp,Int.reduceEq,Int.reduceLT,Int.reduceLE,Nat.reduceLT,ti2,ti3,ti4,ti45,ti46,ti38,ti25,ti30,ti22,ti32,ti24,ti95,ti172,ti169,ti165,ti166,ti65,ti143,ti87, h5]
      refine draw_id (by kernel_rfl) (by kernel_rfl) ?_
      try simp (disch := first | omega | (simp only [ints_length, List.length_replicate]; done) | (simp only [ints_length, List.length_replicate]; omega)) only [Sall,evalOp,init,binE,binI,unE,convE,okNil,builtE,gv,TD.isAgg,resV,↓reduceIte,Nat.reduceEqDiff,reduceCtorEq,Nat.reduceAdd,Nat.reduceMul,Nat.reduceLeDiff,quietOp,blindOp,Int.reduceEq,Int.reduceLT,Int.reduceLE,Nat.reduceLT,ti2,ti3,ti4,ti45,ti46,ti38,ti25,ti30,ti22,ti32,ti24,ti95,ti172,ti169,ti165,ti166,ti65,ti143,ti87, h5, h2, h3, hr0, hr1, ints_get?, bne_self_eq_false, w64]
      refine ⟨⟨h0, by omega⟩, ⟨h0, by omega⟩, (14 - (a + 1)).toNat, by omega, a + 1, rfl, by omega, by omega, rfl, hup⟩
    · try simp (disch := first | omega | (simp only [ints_length, List.length_replicate]; done) | (simp only [ints_length, List.length_replicate]; omega)) only [Sall,evalOp,init,binE,binI,unE,convE,okNil,builtE,gv,TD.isAgg,resV,↓reduceIte,Nat.reduceEqDiff,reduceCtorEq,Nat.reduceAdd,Nat.reduceMul,Nat.reduceLeDiff,quietOp,blindOp,Int.reduceEq,Int.reduceLT,Int.reduceLE,Nat.reduceLT,ti2,ti3,ti4,ti45,ti46,ti38,ti25,ti30,ti22,ti32,ti24,ti95,ti172,ti169,ti165,ti166,ti65,ti143,ti87, true_and]
      exact hup

theorem eqRoundS_c (va vb : Value) (n : Nat) (l : List Int) (hn : n ≤ 4294967296) (H : AH) (ha : Rd 14 H va n l) (hb : Rd 14 H vb n l) : ACalls Try.prog 91 [va, vb] H (is (.bool true) H) := by
  refine acalls_up rfl (acalls_of_awp [.tmp 4] Try.func91 (by kernel_rfl) rfl rfl (Nat.le_of_ble_eq_true rfl) (by kernel_rfl) ?_)
  try simp (disch := first | omega | (simp only [ints_length, List.length_replicate]; done) | (simp only [ints_length, List.length_replicate]; omega)) only [Sall,evalOp,init,binE,binI,unE,convE,okNil,builtE,gv,TD.isAgg,resV,↓reduceIte,Nat.reduceEqDiff,reduceCtorEq,Nat.reduceAdd,Nat.reduceMul,Nat.reduceLeDiff,quietOp,blindOp,Int.reduceEq,Int.reduceLT,Int.reduceLE,Nat.reduceLT,ti2,ti3,ti4,ti45,ti46,ti38,ti25,ti30,ti22,ti32,ti24,ti95,ti172,ti169,ti165,ti166,ti65,ti143,ti87, builtE, ha.len, hb.len, bne_self_eq_false]
  refine awp_loop (fun m t H' => ∃ a : Int, m = (n - a).toNat ∧ 0 ≤ a ∧ a ≤ n ∧ t 5 = .int .i64 a ∧ t 0 = va ∧ t 1 = vb ∧ H' = H) n ?_ ?_
  · refine ⟨0, by omega, by omega, by omega, ?_⟩
    try simp (disch := first | omega | (simp only [ints_length, List.length_replicate]; done) | (simp only [ints_length, List.length_replicate]; omega)) only [Sall,evalOp,init,binE,binI,unE,convE,okNil,builtE,gv,TD.isAgg,resV,↓reduceIte,Nat.reduceEqDiff,reduceCtorEq,Nat.reduceAdd,Nat.reduceMul,Nat.reduceLeDiff,quietOp,blindOp,Int.reduceEq,Int.reduceLT,Int.reduceLE,Nat.reduceLT,ti2,ti3,ti4,ti45,ti46,ti38,ti25,ti30,ti22,ti32,ti24,ti95,ti172,ti169,ti165,ti166,ti65,ti143,ti87, true_and]
  · rintro m t H' ⟨a, hm, h0, h14, h5, h2, h3, rfl⟩
    try simp (disch := first | omega | (simp only [ints_length, List.length_replicate]; done) | (simp only [ints_length, List.length_replicate]; omega)) only [Sall,evalOp,init,binE,binI,unE,convE,okNil,builtE,gv,TD.isAgg,resV,↓reduceIte,Nat.reduceEqDiff,reduceCtorEq,Nat.reduceAdd,Nat.reduceMul,Nat.reduceLeDiff,quietOp,blindOp,Int.reduceEq,Int.reduceLT,Int.reduceLE,Nat.reduceLT,ti2,ti3,ti4,ti45,ti46,ti38,ti25,ti30,ti22,ti32,ti24,ti95,ti172,ti169,ti165,ti166,ti65,ti143,ti87, h5, h2, builtE, ha.len]
    refine condC_dec (fun h => ?_) (fun h => ?_)
    · obtain ⟨i, o, u, c, r, rfl, hr, hc, hs, hg⟩ := ha.get (by omega)
      obtain ⟨i', o', u', c', r', rfl, hr', hc', hs', hg'⟩ := hb.get (by omega)
      try simp (disch := first | omega | (simp only [ints_length, List.length_replicate]; done) | (simp only [ints_length, List.length_replicate]; omega)) only [Sall,evalOp,init,binE,binI,unE,convE,okNil,builtE,gv,TD.isAgg,resV,↓reduceIte,Nat.reduceEqDiff,reduceCtorEq,Nat.reduceAdd,Nat.reduceMul,Nat.reduceLeDiff,quietOp,blindOp,Int.reduceEq,Int.reduceLT,Int.reduceLE,Nat.reduceLT,ti2,ti3,ti4,ti45,ti46,ti38,ti25,ti30,ti22,ti32,ti24,ti95,ti172,ti169,ti165,ti166,ti65,ti143,ti87, h5]
      refine draw_id (by kernel_rfl) (by kernel_rfl) ?_
      try simp (disch := first | omega | (simp only [ints_length, List.length_replicate]; done) | (simp only [ints_length, List.length_replicate]; omega)) only [Sall,evalOp,init,binE,binI,unE,convE,okNil,builtE,gv,TD.isAgg,resV,↓reduceIte,Nat.reduceEqDiff,reduceCtorEq,Nat.reduceAdd,Nat.reduceMul,Nat.reduceLeDiff,quietOp,blindOp,Int.reduceEq,Int.reduceLT,Int.reduceLE,Nat.reduceLT,ti2,ti3,ti4,ti45,ti46,ti38,ti25,ti30,ti22,ti32,ti24,ti95,ti172,ti169,ti165,ti166,ti65,ti143,ti87, h5, h2, h3, hr, hr', hg, hg']
      refine ⟨⟨h0, h⟩, by omega, ⟨h0, h⟩, by omega, (eqRound_c _ ?_ H').to ⟨.inr (.inr (LE.refl _)), ?_⟩⟩
      · rw [List.length_take, List.length_drop, ha.1]; omega
      · try simp (disch := first | omega | (simp only [ints_length, List.length_replicate]; done) | (simp only [ints_length, List.length_replicate]; omega)) only [Sall,evalOp,init,binE,binI,unE,convE,okNil,builtE,gv,TD.isAgg,resV,↓reduceIte,Nat.reduceEqDiff,reduceCtorEq,Nat.reduceAdd,Nat.reduceMul,Nat.reduceLeDiff,quietOp,blindOp,Int.reduceEq,Int.reduceLT,Int.reduceLE,Nat.reduceLT,ti2,ti3,ti4,ti45,ti46,ti38,ti25,ti30,ti22,ti32,ti24,ti95,ti172,ti169,ti165,ti166,ti65,ti143,ti87, Bool.not_true, w64, h5, h2, h3]
        refine ⟨(n - (a + 1)).toNat, by omega, a + 1, rfl, by omega, by omega, rfl⟩
    · try simp (disch := first | omega | (simp only [ints_length, List.length_replicate]; done) | (simp only [ints_length, List.length_replicate]; omega)) only [Sall,evalOp,init,binE,binI,unE,convE,okNil,builtE,gv,TD.isAgg,resV,↓reduceIte,Nat.reduceEqDiff,reduceCtorEq,Nat.reduceAdd,Nat.reduceMul,Nat.reduceLeDiff,quietOp,blindOp,Int.reduceEq,Int.reduceLT,Int.reduceLE,Nat.reduceLT,ti2,ti3,ti4,ti45,ti46,ti38,ti25,ti30,ti22,ti32,ti24,ti95,ti172,ti169,ti165,ti166,ti65,ti143,ti87, true_and]
      exact Up.refl _ _

/-- A schedule as it is handed on: its teams and its rounds. -/
def schedV (n : Int) (v : Value) : Value := .agg #[.int .i64 n, v]

theorem eqSchedule_c (va vb : Value) (q : Int) (n : Nat) (l : List Int) (hn : n ≤ 4294967296) (H : AH) (ha : Rd 14 H va n l) (hb : Rd 14 H vb n l) (h1 : va.oneCell' = true) (h2 : vb.oneCell' = true) :
    ACalls Try.prog 17 [.agg #[.int .i64 q, va], .agg #[.int .i64 q, vb]] H (is (.bool true) H) := by
  refine ACalls.wf (by kernel_rfl) fun hs => acalls_up rfl (acalls_of_awp [.tmp 4] Try.func17 (by kernel_rfl) rfl rfl (Nat.le_of_ble_eq_true rfl) (by kernel_rfl) ?_)
  try simp (disch := first | omega | (simp only [ints_length, List.length_replicate]; done) | (simp only [ints_length, List.length_replicate]; omega)) only [Sall,evalOp,init,binE,binI,unE,convE,okNil,builtE,gv,TD.isAgg,resV,↓reduceIte,Nat.reduceEqDiff,reduceCtorEq,Nat.reduceAdd,Nat.reduceMul,Nat.reduceLeDiff,quietOp,blindOp,Int.reduceEq,Int.reduceLT,Int.reduceLE,Nat.reduceLT,ti2,ti3,ti4,ti45,ti46,ti38,ti25,ti30,ti22,ti32,ti24,ti95,ti172,ti169,ti165,ti166,ti65,ti143,ti87, bne_self_eq_false]
  have up : Up H.next H ((H.push ⟨32, true, [.int .i64 q, va]⟩).push ⟨32, true, [.int .i64 q, vb]⟩) := ((Up.refl _ H).push (Nat.le_refl _) _).push (Nat.le_succ _) _
  refine (eqRoundS_c va vb n l hn _ (ha.same (up.le hs).row) (hb.same (up.le hs).row)).to ?_
  try simp (disch := first | omega | (simp only [ints_length, List.length_replicate]; done) | (simp only [ints_length, List.length_replicate]; omega)) only [Sall,evalOp,init,binE,binI,unE,convE,okNil,builtE,gv,TD.isAgg,resV,↓reduceIte,Nat.reduceEqDiff,reduceCtorEq,Nat.reduceAdd,Nat.reduceMul,Nat.reduceLeDiff,quietOp,blindOp,Int.reduceEq,Int.reduceLT,Int.reduceLE,Nat.reduceLT,ti2,ti3,ti4,ti45,ti46,ti38,ti25,ti30,ti22,ti32,ti24,ti95,ti172,ti169,ti165,ti166,ti65,ti143,ti87, Bool.not_true]
  exact up

/-! ### Marks -/
theorem markRoundS_c (ty lo hi : Nat) (v : Value) (n : Nat) (l : List Int) (k0 : Int) (hk : 0 ≤ k0 ∧ k0 ≤ 4294967296) (hn : n ≤ 4294967296) (H : AH) (hv : Fr 14 ty lo hi H v n l) :
    ACalls Try.prog 93 [v, .int .i64 k0] H (fun r H' => r = .int .i64 (k0 + n * 14) ∧ H.next ≤ H'.next ∧ (∀ i, ¬(lo ≤ i ∧ i < hi) → i < H.next → H'.row i = H.row i) ∧ Fr 14 ty lo hi H' v n (seqL k0 (n * 14))) := by
  refine acalls_of_awp [.tmp 4] Try.func93 (by kernel_rfl) rfl rfl (Nat.le_of_ble_eq_true rfl) (by kernel_rfl) ?_
  try simp (disch := first | omega | (simp only [ints_length, List.length_replicate]; done) | (simp only [ints_length, List.length_replicate]; omega)) only [Sall,evalOp,init,binE,binI,unE,convE,okNil,builtE,gv,TD.isAgg,resV,↓reduceIte,Nat.reduceEqDiff,reduceCtorEq,Nat.reduceAdd,Nat.reduceMul,Nat.reduceLeDiff,quietOp,blindOp,Int.reduceEq,Int.reduceLT,Int.reduceLE,Nat.reduceLT,ti2,ti3,ti4,ti45,ti46,ti38,ti25,ti30,ti22,ti32,ti24,ti95,ti172,ti169,ti165,ti166,ti65,ti143,ti87, true_and]
  refine awp_loop (fun m t H' => ∃ a : Nat, m = n - a ∧ a ≤ n ∧ t 5 = .int .i64 a ∧ t 1 = .int .i64 (k0 + a * 14) ∧ t 0 = v ∧ H'.next = H.next ∧ (∀ i, ¬(lo ≤ i ∧ i < hi) → H'.row i = H.row i) ∧ Fr 14 ty lo hi H' v n (markL k0 l (a * 14))) n ?_ ?_
  · refine ⟨0, by omega, by omega, ?_⟩
    try simp (disch := first | omega | (simp only [ints_length, List.length_replicate]; done) | (simp only [ints_length, List.length_replicate]; omega)) only [Sall,evalOp,init,binE,binI,unE,convE,okNil,builtE,gv,TD.isAgg,resV,↓reduceIte,Nat.reduceEqDiff,reduceCtorEq,Nat.reduceAdd,Nat.reduceMul,Nat.reduceLeDiff,quietOp,blindOp,Int.reduceEq,Int.reduceLT,Int.reduceLE,Nat.reduceLT,ti2,ti3,ti4,ti45,ti46,ti38,ti25,ti30,ti22,ti32,ti24,ti95,ti172,ti169,ti165,ti166,ti65,ti143,ti87, Nat.zero_mul, markL_zero, Int.natCast_zero]
    exact ⟨by omega, hv⟩
  · rintro m t H' ⟨a, hm, h14, h5, h1, h0, hnx, hsm, hfr⟩
    try simp (disch := first | omega | (simp only [ints_length, List.length_replicate]; done) | (simp only [ints_length, List.length_replicate]; omega)) only [Sall,evalOp,init,binE,binI,unE,convE,okNil,builtE,gv,TD.isAgg,resV,↓reduceIte,Nat.reduceEqDiff,reduceCtorEq,Nat.reduceAdd,Nat.reduceMul,Nat.reduceLeDiff,quietOp,blindOp,Int.reduceEq,Int.reduceLT,Int.reduceLE,Nat.reduceLT,ti2,ti3,ti4,ti45,ti46,ti38,ti25,ti30,ti22,ti32,ti24,ti95,ti172,ti169,ti165,ti166,ti65,ti143,ti87, h5, h1, h0, builtE, hfr.rd.len]
    refine condC_dec (fun h => ?_) (fun h => ?_)
    · try simp (disch := first | omega | (simp only [ints_length, List.length_replicate]; done) | (simp only [ints_length, List.length_replicate]; omega)) only [Sall,evalOp,init,binE,binI,unE,convE,okNil,builtE,gv,TD.isAgg,resV,↓reduceIte,Nat.reduceEqDiff,reduceCtorEq,Nat.reduceAdd,Nat.reduceMul,Nat.reduceLeDiff,quietOp,blindOp,Int.reduceEq,Int.reduceLT,Int.reduceLE,Nat.reduceLT,ti2,ti3,ti4,ti45,ti46,ti38,ti25,ti30,ti22,ti32,ti24,ti95,ti172,ti169,ti165,ti166,ti65,ti143,ti87, h5, h1, h0]
      obtain ⟨i, hi1, hi2, rfl, hr⟩ := hfr.get (by omega)
      have hl := hv.1
      refine awp_loop (fun m' t H' => ∃ b : Nat, m' = 14 - b ∧ b ≤ 14 ∧ t 6 = .int .i64 b ∧ t 5 = .int .i64 a ∧ t 1 = .int .i64 (k0 + a * 14 + b) ∧ t 0 = .slice (some ⟨i, 0, some 14⟩) n n ∧ H'.next = H.next ∧ (∀ i, ¬(lo ≤ i ∧ i < hi) → H'.row i = H.row i) ∧
        H'.row i = some ⟨ty, true, ints (markL k0 l (a * 14 + b))⟩) 14 ?_ ?_
      · refine ⟨0, by omega, by omega, ?_⟩
        try simp (disch := first | omega | (simp only [ints_length, List.length_replicate]; done) | (simp only [ints_length, List.length_replicate]; omega)) only [Sall,evalOp,init,binE,binI,unE,convE,okNil,builtE,gv,TD.isAgg,resV,↓reduceIte,Nat.reduceEqDiff,reduceCtorEq,Nat.reduceAdd,Nat.reduceMul,Nat.reduceLeDiff,quietOp,blindOp,Int.reduceEq,Int.reduceLT,Int.reduceLE,Nat.reduceLT,ti2,ti3,ti4,ti45,ti46,ti38,ti25,ti30,ti22,ti32,ti24,ti95,ti172,ti169,ti165,ti166,ti65,ti143,ti87, h5, h1, h0, Int.natCast_zero, Nat.add_zero, hr]
        and_intros <;> first | omega | assumption
      · rintro m' t H' ⟨b, hm', hb14, h6, h5, h1, h0, hnx, hsm, hr⟩
        try simp (disch := first | omega | (simp only [ints_length, List.length_replicate]; done) | (simp only [ints_length, List.length_replicate]; omega)) only [Sall,evalOp,init,binE,binI,unE,convE,okNil,builtE,gv,TD.isAgg,resV,↓reduceIte,Nat.reduceEqDiff,reduceCtorEq,Nat.reduceAdd,Nat.reduceMul,Nat.reduceLeDiff,quietOp,blindOp,Int.reduceEq,Int.reduceLT,Int.reduceLE,Nat.reduceLT,ti2,ti3,ti4,ti45,ti46,ti38,ti25,ti30,ti22,ti32,ti24,ti95,ti172,ti169,ti165,ti166,ti65,ti143,ti87, h6, h5]
        refine condC_dec (fun h' => ?_) (fun h' => ?_)
        · have e : k0 + ↑a * 14 + ↑b = k0 + ↑(a * 14 + b) := by omega
          have e2 : (markL k0 l (a * 14 + b)).set (a * 14 + b) (k0 + ↑a * 14 + ↑b) = markL k0 l (a * 14 + (b + 1)) := by rw [e, markL_set _ _ _ (by omega)]; rfl
          have e3 : (markL k0 l (a * 14 + b)).length = n * 14 := by rw [markL_length _ _ _ (by omega), hl]
          try simp (disch := first | omega | (simp only [ints_length, List.length_replicate]; done) | (simp only [ints_length, List.length_replicate]; omega)) only [Sall,evalOp,init,binE,binI,unE,convE,okNil,builtE,gv,TD.isAgg,resV,↓reduceIte,Nat.reduceEqDiff,reduceCtorEq,Nat.reduceAdd,Nat.reduceMul,Nat.reduceLeDiff,quietOp,blindOp,Int.reduceEq,Int.reduceLT,Int.reduceLE,Nat.reduceLT,ti2,ti3,ti4,ti45,ti46,ti38,ti25,ti30,ti22,ti32,ti24,ti95,ti172,ti169,ti165,ti166,ti65,ti143,ti87, h6, h5, h1, h0, hr, w64, ints_set, e2, e3]
          refine ⟨⟨by omega, by omega⟩, ⟨by omega, by omega⟩, by omega, 14 - (b + 1), by omega, b + 1, ?_⟩
          try simp (disch := first | omega | (simp only [ints_length, List.length_replicate]; done) | (simp only [ints_length, List.length_replicate]; omega)) only [Sall,evalOp,init,binE,binI,unE,convE,okNil,builtE,gv,TD.isAgg,resV,↓reduceIte,Nat.reduceEqDiff,reduceCtorEq,Nat.reduceAdd,Nat.reduceMul,Nat.reduceLeDiff,quietOp,blindOp,Int.reduceEq,Int.reduceLT,Int.reduceLE,Nat.reduceLT,ti2,ti3,ti4,ti45,ti46,ti38,ti25,ti30,ti22,ti32,ti24,ti95,ti172,ti169,ti165,ti166,ti65,ti143,ti87, true_and]
          and_intros <;> first | omega | assumption | skip
          intro x hx
          rw [if_neg (by omega)]; exact hsm x hx
        · try simp (disch := first | omega | (simp only [ints_length, List.length_replicate]; done) | (simp only [ints_length, List.length_replicate]; omega)) only [Sall,evalOp,init,binE,binI,unE,convE,okNil,builtE,gv,TD.isAgg,resV,↓reduceIte,Nat.reduceEqDiff,reduceCtorEq,Nat.reduceAdd,Nat.reduceMul,Nat.reduceLeDiff,quietOp,blindOp,Int.reduceEq,Int.reduceLT,Int.reduceLE,Nat.reduceLT,ti2,ti3,ti4,ti45,ti46,ti38,ti25,ti30,ti22,ti32,ti24,ti95,ti172,ti169,ti165,ti166,ti65,ti143,ti87, h6, h5, h1, h0, w64]
          have hb : b = 14 := by omega
          subst hb
          refine ⟨n - (a + 1), by omega, a + 1, rfl, by omega, by omega, by omega, hnx, hsm, ?_⟩
          refine ⟨by rw [markL_length _ _ _ (by omega)]; exact hv.1, .inr ⟨i, hi1, hi2, rfl, ?_⟩⟩
          rw [hr, show (a + 1) * 14 = a * 14 + 14 by omega]
    · try simp (disch := first | omega | (simp only [ints_length, List.length_replicate]; done) | (simp only [ints_length, List.length_replicate]; omega)) only [Sall,evalOp,init,binE,binI,unE,convE,okNil,builtE,gv,TD.isAgg,resV,↓reduceIte,Nat.reduceEqDiff,reduceCtorEq,Nat.reduceAdd,Nat.reduceMul,Nat.reduceLeDiff,quietOp,blindOp,Int.reduceEq,Int.reduceLT,Int.reduceLE,Nat.reduceLT,ti2,ti3,ti4,ti45,ti46,ti38,ti25,ti30,ti22,ti32,ti24,ti95,ti172,ti169,ti165,ti166,ti65,ti143,ti87, h1]
      have ha : a = n := by omega
      subst ha
      refine ⟨rfl, by omega, fun i hi _ => hsm i hi, ?_⟩
      rw [← hv.1] at hfr ⊢
      rwa [markL_all] at hfr

theorem markSchedule_c (ty lo hi : Nat) (v : Value) (q : Int) (n : Nat) (l : List Int) (k0 : Int) (hk : 0 ≤ k0 ∧ k0 ≤ 4294967296) (hn : n ≤ 4294967296) (H : AH) (hv : Fr 14 ty lo hi H v n l) (hh : hi ≤ H.next) :
    ACalls Try.prog 22 [.agg #[.int .i64 q, v], .int .i64 k0] H (fun r H' => r = .int .i64 (k0 + n * 14) ∧ H.next ≤ H'.next ∧ (∀ i, ¬(lo ≤ i ∧ i < hi) → i < H.next → H'.row i = H.row i) ∧ Fr 14 ty lo hi H' v n (seqL k0 (n * 14))) := by
  refine acalls_of_awp [.tmp 4] Try.func22 (by kernel_rfl) rfl rfl (Nat.le_of_ble_eq_true rfl) (by kernel_rfl) ?_
  try simp (disch := first | omega | (simp only [ints_length, List.length_replicate]; done) | (simp only [ints_length, List.length_replicate]; omega)) only [Sall,evalOp,init,binE,binI,unE,convE,okNil,builtE,gv,TD.isAgg,resV,↓reduceIte,Nat.reduceEqDiff,reduceCtorEq,Nat.reduceAdd,Nat.reduceMul,Nat.reduceLeDiff,quietOp,blindOp,Int.reduceEq,Int.reduceLT,Int.reduceLE,Nat.reduceLT,ti2,ti3,ti4,ti45,ti46,ti38,ti25,ti30,ti22,ti32,ti24,ti95,ti172,ti169,ti165,ti166,ti65,ti143,ti87, true_and]
  have hv' : Fr 14 ty lo hi (H.push ⟨32, true, [.int .i64 q, v]⟩) v n l := hv.same fun i _ h2 => by rw [AH.push_row, if_neg (by omega)]
  refine (markRoundS_c ty lo hi v n l k0 hk hn _ hv').fin ?_
  rintro H' ⟨h1, h2, h3⟩
  try simp (disch := first | omega | (simp only [ints_length, List.length_replicate]; done) | (simp only [ints_length, List.length_replicate]; omega)) only [Sall,evalOp,init,binE,binI,unE,convE,okNil,builtE,gv,TD.isAgg,resV,↓reduceIte,Nat.reduceEqDiff,reduceCtorEq,Nat.reduceAdd,Nat.reduceMul,Nat.reduceLeDiff,quietOp,blindOp,Int.reduceEq,Int.reduceLT,Int.reduceLE,Nat.reduceLT,ti2,ti3,ti4,ti45,ti46,ti38,ti25,ti30,ti22,ti32,ti24,ti95,ti172,ti169,ti165,ti166,ti65,ti143,ti87, true_and]
  rw [AH.push_next] at h1
  refine ⟨by omega, fun i hi' hi2 => ?_, h3⟩
  rw [h2 i hi' (by rw [AH.push_next]; omega), AH.push_row, if_neg (by omega)]

/-! ### Marks that are held -/
end Go.Proofs.Ytgkmdfjjlghecaa.A
end

section
set_option linter.unusedSimpArgs false
set_option linter.unusedVariables false
set_option maxRecDepth 100000
namespace Go.Proofs.Ytgkmdfjjlghecaa.A
open Go Go.Abs Go.RowKit

theorem law_FirstTeams_c (q0 : Int) (v0 : Value) (n0 : Nat) (l0 : List Int) (v1 : Value) (ll1 : List (List Int)) (H : AH) (h0 : Rd 14 H v0 n0 l0) (b0 : n0 ≤ 9223372036854775807) (h1 : Rd2 1 H v1 ll1) (b1 : ll1.length ≤ 9223372036854775807) (c1 : ∀ y ∈ ll1, y.length ≤ 9223372036854775807) :
    ACalls Try.prog 4 [.agg #[.int .i64 q0, v0], v1] H (fun v _ => v = .bool true ∧ True) := by
  refine ACalls.wf (by kernel_rfl) fun hs => acalls_of_awp [.tmp 4] Try.func4 (by kernel_rfl) rfl rfl (Nat.le_of_ble_eq_true rfl) (by kernel_rfl) ?_
  have o0 := h0.one
  try simp (disch := first | omega | (simp only [ints_length, List.length_replicate]; done) | (simp only [ints_length, List.length_replicate]; omega)) only [Sall,evalOp,init,binE,binI,unE,convE,okNil,builtE,gv,TD.isAgg,resV,↓reduceIte,Nat.reduceEqDiff,reduceCtorEq,Nat.reduceAdd,Nat.reduceMul,Nat.reduceLeDiff,quietOp,blindOp,Int.reduceEq,Int.reduceLT,Int.reduceLE,Nat.reduceLT,ti2,ti3,ti4,ti45,ti46,ti38,ti25,ti30,ti22,ti32,ti24,ti95,ti172,ti169,ti165,ti166,ti65,ti143,ti87, o0]
  obtain ⟨H1, eH1⟩ : ∃ H1, H1 = (H.push ⟨24, true, [.int .i64 q0, v0]⟩) := ⟨_, rfl⟩
  have nx1 : H1.next = H.next + 1 := by rw [eH1]; rfl
  have U1 : Up H.next H H1 := by rw [eH1]; exact ((Up.refl _ H).push (by first | omega | (simp only [AH.push_next]; omega)) _)
  have e0 : H1.row H.next = some ⟨24, true, [.int .i64 q0, v0]⟩ := by rw [eH1]; simp [AH.push_row, AH.push_next]
  rw [← eH1]
  clear eH1
  refine (szSchedule_c q0 v0 n0 l0 _ H1 (h0.same (U1.le hs).row) (by omega) b0).to ?_
  obtain ⟨x0, ex0⟩ : ∃ x, x = szL (1048576) n0 := ⟨_, rfl⟩
  rw [← ex0]
  have z0 : 0 ≤ x0 → (n0 : Int) + x0 = 1048576 := by intro hx; unfold szL at ex0; split at ex0 <;> omega
  refine Holds.mp ?_
  by_cases y0 : x0 < 0
  · try simp (disch := first | omega | (simp only [ints_length, List.length_replicate]; done) | (simp only [ints_length, List.length_replicate]; omega)) only [Sall,evalOp,init,binE,binI,unE,convE,okNil,builtE,gv,TD.isAgg,resV,↓reduceIte,Nat.reduceEqDiff,reduceCtorEq,Nat.reduceAdd,Nat.reduceMul,Nat.reduceLeDiff,quietOp,blindOp,Int.reduceEq,Int.reduceLT,Int.reduceLE,Nat.reduceLT,ti2,ti3,ti4,ti45,ti46,ti38,ti25,ti30,ti22,ti32,ti24,ti95,ti172,ti169,ti165,ti166,ti65,ti143,ti87, y0, decide_true]
  have y0' := z0 (by omega)
  try simp (disch := first | omega | (simp only [ints_length, List.length_replicate]; done) | (simp only [ints_length, List.length_replicate]; omega)) only [Sall,evalOp,init,binE,binI,unE,convE,okNil,builtE,gv,TD.isAgg,resV,↓reduceIte,Nat.reduceEqDiff,reduceCtorEq,Nat.reduceAdd,Nat.reduceMul,Nat.reduceLeDiff,quietOp,blindOp,Int.reduceEq,Int.reduceLT,Int.reduceLE,Nat.reduceLT,ti2,ti3,ti4,ti45,ti46,ti38,ti25,ti30,ti22,ti32,ti24,ti95,ti172,ti169,ti165,ti166,ti65,ti143,ti87, y0, decide_false, e0]
  refine (szInt64SS_c v1 ll1 _ H1 (h1.same (U1.le hs).row) (by omega) b1 c1).exH ?_
  rintro x1 z1
  refine Holds.mp ?_
  by_cases y1 : x1 < 0
  · try simp (disch := first | omega | (simp only [ints_length, List.length_replicate]; done) | (simp only [ints_length, List.length_replicate]; omega)) only [Sall,evalOp,init,binE,binI,unE,convE,okNil,builtE,gv,TD.isAgg,resV,↓reduceIte,Nat.reduceEqDiff,reduceCtorEq,Nat.reduceAdd,Nat.reduceMul,Nat.reduceLeDiff,quietOp,blindOp,Int.reduceEq,Int.reduceLT,Int.reduceLE,Nat.reduceLT,ti2,ti3,ti4,ti45,ti46,ti38,ti25,ti30,ti22,ti32,ti24,ti95,ti172,ti169,ti165,ti166,ti65,ti143,ti87, y1, decide_true]
  have y1' := z1 (by omega)
  try simp (disch := first | omega | (simp only [ints_length, List.length_replicate]; done) | (simp only [ints_length, List.length_replicate]; omega)) only [Sall,evalOp,init,binE,binI,unE,convE,okNil,builtE,gv,TD.isAgg,resV,↓reduceIte,Nat.reduceEqDiff,reduceCtorEq,Nat.reduceAdd,Nat.reduceMul,Nat.reduceLeDiff,quietOp,blindOp,Int.reduceEq,Int.reduceLT,Int.reduceLE,Nat.reduceLT,ti2,ti3,ti4,ti45,ti46,ti38,ti25,ti30,ti22,ti32,ti24,ti95,ti172,ti169,ti165,ti166,ti65,ti143,ti87, y1, decide_false, e0]
  have d1 : ∀ y ∈ ll1, y.length ≤ 1048576 := fun y hy => by have := tot_mem hy; omega
  have hL0 : (firstsR q0 n0 l0 ll1).length ≤ 4294967296 := by have := firstsR_length q0 n0 l0 ll1; omega
  refine (toSchedule_c q0 v0 n0 l0 H1 (h0.same (U1.le hs).row) (by omega)).ex ?_
  rintro u0 H2 ⟨up2, Fu0⟩
  have nx2 := up2.next
  have U2 : Up H.next H H2 := U1.trans up2 (by omega)
  replace e0 : H2.row H.next = some ⟨24, true, [.int .i64 q0, v0]⟩ := by rw [up2.row _ (by omega), e0]
  have Ou0 := Fu0.rd.one
  try simp (disch := first | omega | (simp only [ints_length, List.length_replicate]; done) | (simp only [ints_length, List.length_replicate]; omega)) only [Sall,evalOp,init,binE,binI,unE,convE,okNil,builtE,gv,TD.isAgg,resV,↓reduceIte,Nat.reduceEqDiff,reduceCtorEq,Nat.reduceAdd,Nat.reduceMul,Nat.reduceLeDiff,quietOp,blindOp,Int.reduceEq,Int.reduceLT,Int.reduceLE,Nat.reduceLT,ti2,ti3,ti4,ti45,ti46,ti38,ti25,ti30,ti22,ti32,ti24,ti95,ti172,ti169,ti165,ti166,ti65,ti143,ti87, e0, Ou0]
  refine (toInt64SS_c v1 ll1 H2 (h1.same (U2.le hs).row) (by omega) (fun y hy => by have := d1 y hy; omega)).mono ?_
  rintro u1 H3 ⟨up3, Fu1⟩
  have nx3 := up3.next
  have U3 : Up H.next H H3 := U2.trans up3 (by omega)
  replace e0 : H3.row H.next = some ⟨24, true, [.int .i64 q0, v0]⟩ := by rw [up3.row _ (by omega), e0]
  replace Fu0 : Fr 14 46 H1.next H2.next H3 u0 n0 l0 := Fu0.same fun i _ hi => up3.row i (by omega)
  refine Holds.mp ?_
  try simp (disch := first | omega | (simp only [ints_length, List.length_replicate]; done) | (simp only [ints_length, List.length_replicate]; omega)) only [Sall,evalOp,init,binE,binI,unE,convE,okNil,builtE,gv,TD.isAgg,resV,↓reduceIte,Nat.reduceEqDiff,reduceCtorEq,Nat.reduceAdd,Nat.reduceMul,Nat.reduceLeDiff,quietOp,blindOp,Int.reduceEq,Int.reduceLT,Int.reduceLE,Nat.reduceLT,ti2,ti3,ti4,ti45,ti46,ti38,ti25,ti30,ti22,ti32,ti24,ti95,ti172,ti169,ti165,ti166,ti65,ti143,ti87, e0, Ou0]
  refine (specFirstTeams_c q0 u0 n0 l0 u1 ll1 H3 Fu0.rd (by omega) Fu1.rd (by omega) (fun y hy => by have := d1 y hy; omega)).ex ?_
  rintro w0 H4 ⟨up4, Fw0⟩
  have nx4 := up4.next
  have U4 : Up H.next H H4 := U3.trans up4 (by omega)
  replace e0 : H4.row H.next = some ⟨24, true, [.int .i64 q0, v0]⟩ := by rw [up4.row _ (by omega), e0]
  replace Fu0 : Fr 14 46 H1.next H2.next H4 u0 n0 l0 := Fu0.same fun i _ hi => up4.row i (by omega)
  replace Fu1 : Fr2 1 38 2 H2.next H3.next H4 u1 ll1 := Fu1.same fun i _ hi => up4.row i (by omega)
  have Ow0 := Fw0.rd.one
  try simp (disch := first | omega | (simp only [ints_length, List.length_replicate]; done) | (simp only [ints_length, List.length_replicate]; omega)) only [Sall,evalOp,init,binE,binI,unE,convE,okNil,builtE,gv,TD.isAgg,resV,↓reduceIte,Nat.reduceEqDiff,reduceCtorEq,Nat.reduceAdd,Nat.reduceMul,Nat.reduceLeDiff,quietOp,blindOp,Int.reduceEq,Int.reduceLT,Int.reduceLE,Nat.reduceLT,ti2,ti3,ti4,ti45,ti46,ti38,ti25,ti30,ti22,ti32,ti24,ti95,ti172,ti169,ti165,ti166,ti65,ti143,ti87, e0, Ou0, Ow0]
  refine (toSchedule_c q0 v0 n0 l0 H4 (h0.same (U4.le hs).row) (by omega)).ex ?_
  rintro g0 H5 ⟨up5, Fg0⟩
  have nx5 := up5.next
  have U5 : Up H.next H H5 := U4.trans up5 (by omega)
  replace e0 : H5.row H.next = some ⟨24, true, [.int .i64 q0, v0]⟩ := by rw [up5.row _ (by omega), e0]
  replace Fw0 : Fr 1 2 H3.next H4.next H5 w0 _ _ := Fw0.same fun i _ hi => up5.row i (by omega)
  have Og0 := Fg0.rd.one
  try simp (disch := first | omega | (simp only [ints_length, List.length_replicate]; done) | (simp only [ints_length, List.length_replicate]; omega)) only [Sall,evalOp,init,binE,binI,unE,convE,okNil,builtE,gv,TD.isAgg,resV,↓reduceIte,Nat.reduceEqDiff,reduceCtorEq,Nat.reduceAdd,Nat.reduceMul,Nat.reduceLeDiff,quietOp,blindOp,Int.reduceEq,Int.reduceLT,Int.reduceLE,Nat.reduceLT,ti2,ti3,ti4,ti45,ti46,ti38,ti25,ti30,ti22,ti32,ti24,ti95,ti172,ti169,ti165,ti166,ti65,ti143,ti87, e0, Ou0, Ow0, Og0]
  obtain ⟨H6, eh⟩ : ∃ K, K = (H5.push ⟨32, true, [.int .i64 0, .slice none 0 0]⟩).setCells H5.next [.int .i64 q0, g0] := ⟨_, rfl⟩
  have up6 : Up H5.next H5 H6 := by rw [eh]; exact ((Up.refl _ _).push (Nat.le_refl _) _).set (Nat.le_refl _) _
  have E0 : H6.row H5.next = some ⟨32, true, [.int .i64 q0, g0]⟩ := by rw [eh, AH.setCells_row, if_pos rfl, AH.push_row, if_pos rfl]; rfl
  have nn6 : H6.next = H5.next + 1 := by rw [eh]; rfl
  rw [← eh]
  clear eh
  have nx6 := up6.next
  have U6 : Up H.next H H6 := U5.trans up6 (by omega)
  replace e0 : H6.row H.next = some ⟨24, true, [.int .i64 q0, v0]⟩ := by rw [up6.row _ (by omega), e0]
  replace Fw0 : Fr 1 2 H3.next H4.next H6 w0 _ _ := Fw0.same fun i _ hi => up6.row i (by omega)
  replace Fg0 : Fr 14 46 H4.next H5.next H6 g0 n0 l0 := Fg0.same fun i _ hi => up6.row i (by omega)
  try simp (disch := first | omega | (simp only [ints_length, List.length_replicate]; done) | (simp only [ints_length, List.length_replicate]; omega)) only [Sall,evalOp,init,binE,binI,unE,convE,okNil,builtE,gv,TD.isAgg,resV,↓reduceIte,Nat.reduceEqDiff,reduceCtorEq,Nat.reduceAdd,Nat.reduceMul,Nat.reduceLeDiff,quietOp,blindOp,Int.reduceEq,Int.reduceLT,Int.reduceLE,Nat.reduceLT,ti2,ti3,ti4,ti45,ti46,ti38,ti25,ti30,ti22,ti32,ti24,ti95,ti172,ti169,ti165,ti166,ti65,ti143,ti87, e0, E0, Ou0, Ow0, Og0]
  refine (toInt64SS_c v1 ll1 H6 (h1.same (U6.le hs).row) (by omega) (fun y hy => by have := d1 y hy; omega)).mono ?_
  rintro g1 H7 ⟨up7, Fg1⟩
  have nx7 := up7.next
  have U7 : Up H.next H H7 := U6.trans up7 (by omega)
  replace e0 : H7.row H.next = some ⟨24, true, [.int .i64 q0, v0]⟩ := by rw [up7.row _ (by omega), e0]
  replace E0 : H7.row H5.next = some ⟨32, true, [.int .i64 q0, g0]⟩ := by rw [up7.row _ (by omega), E0]
  replace Fw0 : Fr 1 2 H3.next H4.next H7 w0 _ _ := Fw0.same fun i _ hi => up7.row i (by omega)
  replace Fg0 : Fr 14 46 H4.next H5.next H7 g0 n0 l0 := Fg0.same fun i _ hi => up7.row i (by omega)
  refine Holds.mp ?_
  try simp (disch := first | omega | (simp only [ints_length, List.length_replicate]; done) | (simp only [ints_length, List.length_replicate]; omega)) only [Sall,evalOp,init,binE,binI,unE,convE,okNil,builtE,gv,TD.isAgg,resV,↓reduceIte,Nat.reduceEqDiff,reduceCtorEq,Nat.reduceAdd,Nat.reduceMul,Nat.reduceLeDiff,quietOp,blindOp,Int.reduceEq,Int.reduceLT,Int.reduceLE,Nat.reduceLT,ti2,ti3,ti4,ti45,ti46,ti38,ti25,ti30,ti22,ti32,ti24,ti95,ti172,ti169,ti165,ti166,ti65,ti143,ti87, e0, E0, Ou0, Ow0, Og0]
  refine (FirstTeams_c q0 g0 n0 l0 g1 ll1 H7 Fg0.rs (by omega) Fg1.rd (by omega) (fun y hy => by have := d1 y hy; omega)).ex ?_
  rintro r0 H8 ⟨up8, Fr0⟩
  have nx8 := up8.next
  have U8 : Up H.next H H8 := U7.trans up8 (by omega)
  replace e0 : H8.row H.next = some ⟨24, true, [.int .i64 q0, v0]⟩ := by rw [up8.row _ (by omega), e0]
  replace E0 : H8.row H5.next = some ⟨32, true, [.int .i64 q0, g0]⟩ := by rw [up8.row _ (by omega), E0]
  replace Fw0 : Fr 1 2 H3.next H4.next H8 w0 _ _ := Fw0.same fun i _ hi => up8.row i (by omega)
  replace Fg0 : Fr 14 46 H4.next H5.next H8 g0 n0 l0 := Fg0.same fun i _ hi => up8.row i (by omega)
  replace Fg1 : Fr2 1 38 2 H6.next H7.next H8 g1 ll1 := Fg1.same fun i _ hi => up8.row i (by omega)
  have Or0 := Fr0.rd.one
  try simp (disch := first | omega | (simp only [ints_length, List.length_replicate]; done) | (simp only [ints_length, List.length_replicate]; omega)) only [Sall,evalOp,init,binE,binI,unE,convE,okNil,builtE,gv,TD.isAgg,resV,↓reduceIte,Nat.reduceEqDiff,reduceCtorEq,Nat.reduceAdd,Nat.reduceMul,Nat.reduceLeDiff,quietOp,blindOp,Int.reduceEq,Int.reduceLT,Int.reduceLE,Nat.reduceLT,ti2,ti3,ti4,ti45,ti46,ti38,ti25,ti30,ti22,ti32,ti24,ti95,ti172,ti169,ti165,ti166,ti65,ti143,ti87, e0, E0, Ou0, Ow0, Og0, Or0]
  refine (eqInt64S_c r0 w0 _ _ _ hL0 H8 Fr0.rd Fw0.rd).to ?_
  try simp (disch := first | omega | (simp only [ints_length, List.length_replicate]; done) | (simp only [ints_length, List.length_replicate]; omega)) only [Sall,evalOp,init,binE,binI,unE,convE,okNil,builtE,gv,TD.isAgg,resV,↓reduceIte,Nat.reduceEqDiff,reduceCtorEq,Nat.reduceAdd,Nat.reduceMul,Nat.reduceLeDiff,quietOp,blindOp,Int.reduceEq,Int.reduceLT,Int.reduceLE,Nat.reduceLT,ti2,ti3,ti4,ti45,ti46,ti38,ti25,ti30,ti22,ti32,ti24,ti95,ti172,ti169,ti165,ti166,ti65,ti143,ti87, Bool.not_true, bne_self_eq_false, e0, E0, Ou0, Ow0, Og0, Or0]
  refine draw_id (by kernel_rfl) (by kernel_rfl) ?_
  try simp (disch := first | omega | (simp only [ints_length, List.length_replicate]; done) | (simp only [ints_length, List.length_replicate]; omega)) only [Sall,evalOp,init,binE,binI,unE,convE,okNil,builtE,gv,TD.isAgg,resV,↓reduceIte,Nat.reduceEqDiff,reduceCtorEq,Nat.reduceAdd,Nat.reduceMul,Nat.reduceLeDiff,quietOp,blindOp,Int.reduceEq,Int.reduceLT,Int.reduceLE,Nat.reduceLT,ti2,ti3,ti4,ti45,ti46,ti38,ti25,ti30,ti22,ti32,ti24,ti95,ti172,ti169,ti165,ti166,ti65,ti143,ti87, e0, E0, Ou0, Ow0, Og0, Or0]
  refine ACalls.wf (by kernel_rfl) fun hs9 => (toSchedule_c q0 v0 n0 l0 H8 (h0.same (U8.le hs).row) (by omega)).ex ?_
  rintro t0 H9 ⟨up9, Ft0⟩
  refine ⟨.inr (.inr (up9.le hs9)), ?_⟩
  have nx9 := up9.next
  have U9 : Up H.next H H9 := U8.trans up9 (by omega)
  replace e0 : H9.row H.next = some ⟨24, true, [.int .i64 q0, v0]⟩ := by rw [up9.row _ (by omega), e0]
  replace E0 : H9.row H5.next = some ⟨32, true, [.int .i64 q0, g0]⟩ := by rw [up9.row _ (by omega), E0]
  replace Fw0 : Fr 1 2 H3.next H4.next H9 w0 _ _ := Fw0.same fun i _ hi => up9.row i (by omega)
  replace Fg0 : Fr 14 46 H4.next H5.next H9 g0 n0 l0 := Fg0.same fun i _ hi => up9.row i (by omega)
  replace Fg1 : Fr2 1 38 2 H6.next H7.next H9 g1 ll1 := Fg1.same fun i _ hi => up9.row i (by omega)
  replace Fr0 : Fr 1 2 H7.next H8.next H9 r0 _ _ := Fr0.same fun i _ hi => up9.row i (by omega)
  try simp (disch := first | omega | (simp only [ints_length, List.length_replicate]; done) | (simp only [ints_length, List.length_replicate]; omega)) only [Sall,evalOp,init,binE,binI,unE,convE,okNil,builtE,gv,TD.isAgg,resV,↓reduceIte,Nat.reduceEqDiff,reduceCtorEq,Nat.reduceAdd,Nat.reduceMul,Nat.reduceLeDiff,quietOp,blindOp,Int.reduceEq,Int.reduceLT,Int.reduceLE,Nat.reduceLT,ti2,ti3,ti4,ti45,ti46,ti38,ti25,ti30,ti22,ti32,ti24,ti95,ti172,ti169,ti165,ti166,ti65,ti143,ti87, e0, E0, Ou0, Ow0, Og0, Or0]
  refine (eqSchedule_c g0 t0 q0 n0 l0 (by omega) H9 Fg0.rd Ft0.rd Fg0.rd.one Ft0.rd.one).to ?_
  refine ⟨.inr (.inr (LE.refl _)), ?_⟩
  try simp (disch := first | omega | (simp only [ints_length, List.length_replicate]; done) | (simp only [ints_length, List.length_replicate]; omega)) only [Sall,evalOp,init,binE,binI,unE,convE,okNil,builtE,gv,TD.isAgg,resV,↓reduceIte,Nat.reduceEqDiff,reduceCtorEq,Nat.reduceAdd,Nat.reduceMul,Nat.reduceLeDiff,quietOp,blindOp,Int.reduceEq,Int.reduceLT,Int.reduceLE,Nat.reduceLT,ti2,ti3,ti4,ti45,ti46,ti38,ti25,ti30,ti22,ti32,ti24,ti95,ti172,ti169,ti165,ti166,ti65,ti143,ti87, Bool.not_true, e0, E0, Ou0, Ow0, Og0, Or0]
  refine (toInt64SS_c v1 ll1 H9 (h1.same (U9.le hs).row) (by omega) (fun y hy => by have := d1 y hy; omega)).mono ?_
  rintro t1 H10 ⟨up10, Ft1⟩
  have nx10 := up10.next
  have U10 : Up H.next H H10 := U9.trans up10 (by omega)
  replace e0 : H10.row H.next = some ⟨24, true, [.int .i64 q0, v0]⟩ := by rw [up10.row _ (by omega), e0]
  replace E0 : H10.row H5.next = some ⟨32, true, [.int .i64 q0, g0]⟩ := by rw [up10.row _ (by omega), E0]
  replace Fw0 : Fr 1 2 H3.next H4.next H10 w0 _ _ := Fw0.same fun i _ hi => up10.row i (by omega)
  replace Fg0 : Fr 14 46 H4.next H5.next H10 g0 n0 l0 := Fg0.same fun i _ hi => up10.row i (by omega)
  replace Fg1 : Fr2 1 38 2 H6.next H7.next H10 g1 ll1 := Fg1.same fun i _ hi => up10.row i (by omega)
  replace Fr0 : Fr 1 2 H7.next H8.next H10 r0 _ _ := Fr0.same fun i _ hi => up10.row i (by omega)
  refine Holds.mp ?_
  try simp (disch := first | omega | (simp only [ints_length, List.length_replicate]; done) | (simp only [ints_length, List.length_replicate]; omega)) only [Sall,evalOp,init,binE,binI,unE,convE,okNil,builtE,gv,TD.isAgg,resV,↓reduceIte,Nat.reduceEqDiff,reduceCtorEq,Nat.reduceAdd,Nat.reduceMul,Nat.reduceLeDiff,quietOp,blindOp,Int.reduceEq,Int.reduceLT,Int.reduceLE,Nat.reduceLT,ti2,ti3,ti4,ti45,ti46,ti38,ti25,ti30,ti22,ti32,ti24,ti95,ti172,ti169,ti165,ti166,ti65,ti143,ti87, e0, E0, Ou0, Ow0, Og0, Or0]
  refine (eqInt64SS_c g1 t1 ll1 (by omega) (fun y hy => by have := d1 y hy; omega) H10 Fg1.rd Ft1.rd).to ?_
  try simp (disch := first | omega | (simp only [ints_length, List.length_replicate]; done) | (simp only [ints_length, List.length_replicate]; omega)) only [Sall,evalOp,init,binE,binI,unE,convE,okNil,builtE,gv,TD.isAgg,resV,↓reduceIte,Nat.reduceEqDiff,reduceCtorEq,Nat.reduceAdd,Nat.reduceMul,Nat.reduceLeDiff,quietOp,blindOp,Int.reduceEq,Int.reduceLT,Int.reduceLE,Nat.reduceLT,ti2,ti3,ti4,ti45,ti46,ti38,ti25,ti30,ti22,ti32,ti24,ti95,ti172,ti169,ti165,ti166,ti65,ti143,ti87, Bool.not_true, e0, E0, Ou0, Ow0, Og0, Or0]
  try simp (disch := first | omega | (simp only [ints_length, List.length_replicate]; done) | (simp only [ints_length, List.length_replicate]; omega)) only [Sall,evalOp,init,binE,binI,unE,convE,okNil,builtE,gv,TD.isAgg,resV,↓reduceIte,Nat.reduceEqDiff,reduceCtorEq,Nat.reduceAdd,Nat.reduceMul,Nat.reduceLeDiff,quietOp,blindOp,Int.reduceEq,Int.reduceLT,Int.reduceLE,Nat.reduceLT,ti2,ti3,ti4,ti45,ti46,ti38,ti25,ti30,ti22,ti32,ti24,ti95,ti172,ti169,ti165,ti166,ti65,ti143,ti87, e0, E0, Ou0, Ow0, Og0, Or0]
  refine (markSchedule_c _ H4.next H5.next g0 q0 n0 l0 _ (by omega) (by omega) H10 Fg0 (by omega)).fin ?_
  rintro H11 ⟨nx11, sm11, KFg0⟩
  have U11 : Up H.next H H11 := ⟨by have := U10.next; omega, fun i hi => by rw [sm11 i (by omega) (by omega), U10.row i hi]⟩
  replace e0 : H11.row H.next = some ⟨24, true, [.int .i64 q0, v0]⟩ := by rw [sm11 _ (by omega) (by omega), e0]
  replace E0 : H11.row H5.next = some ⟨32, true, [.int .i64 q0, g0]⟩ := by rw [sm11 _ (by omega) (by omega), E0]
  replace Fw0 : Fr 1 2 H3.next H4.next H11 w0 _ _ := Fw0.same fun i _ hi => sm11 i (by omega) (by omega)
  replace Fg1 : Fr2 1 38 2 H6.next H7.next H11 g1 ll1 := Fg1.same fun i _ hi => sm11 i (by omega) (by omega)
  replace Fr0 : Fr 1 2 H7.next H8.next H11 r0 _ _ := Fr0.same fun i _ hi => sm11 i (by omega) (by omega)
  try simp (disch := first | omega | (simp only [ints_length, List.length_replicate]; done) | (simp only [ints_length, List.length_replicate]; omega)) only [Sall,evalOp,init,binE,binI,unE,convE,okNil,builtE,gv,TD.isAgg,resV,↓reduceIte,Nat.reduceEqDiff,reduceCtorEq,Nat.reduceAdd,Nat.reduceMul,Nat.reduceLeDiff,quietOp,blindOp,Int.reduceEq,Int.reduceLT,Int.reduceLE,Nat.reduceLT,ti2,ti3,ti4,ti45,ti46,ti38,ti25,ti30,ti22,ti32,ti24,ti95,ti172,ti169,ti165,ti166,ti65,ti143,ti87, e0, E0, Ou0, Ow0, Og0, Or0]
  refine (markInt64SS_c _ _ H6.next H7.next g1 _ _ (by omega) (by omega) (by omega) H11 Fg1).fin ?_
  rintro H12 ⟨nx12, sm12, KFg1⟩
  have U12 : Up H.next H H12 := ⟨by have := U11.next; omega, fun i hi => by rw [sm12 i (by omega), U11.row i hi]⟩
  replace e0 : H12.row H.next = some ⟨24, true, [.int .i64 q0, v0]⟩ := by rw [sm12 _ (by omega), e0]
  replace E0 : H12.row H5.next = some ⟨32, true, [.int .i64 q0, g0]⟩ := by rw [sm12 _ (by omega), E0]
  replace Fw0 : Fr 1 2 H3.next H4.next H12 w0 _ _ := Fw0.same fun i _ hi => sm12 i (by omega)
  replace Fr0 : Fr 1 2 H7.next H8.next H12 r0 _ _ := Fr0.same fun i _ hi => sm12 i (by omega)
  try simp (disch := first | omega | (simp only [ints_length, List.length_replicate]; done) | (simp only [ints_length, List.length_replicate]; omega)) only [Sall,evalOp,init,binE,binI,unE,convE,okNil,builtE,gv,TD.isAgg,resV,↓reduceIte,Nat.reduceEqDiff,reduceCtorEq,Nat.reduceAdd,Nat.reduceMul,Nat.reduceLeDiff,quietOp,blindOp,Int.reduceEq,Int.reduceLT,Int.reduceLE,Nat.reduceLT,ti2,ti3,ti4,ti45,ti46,ti38,ti25,ti30,ti22,ti32,ti24,ti95,ti172,ti169,ti165,ti166,ti65,ti143,ti87, e0, E0, Ou0, Ow0, Og0, Or0]
  rw [decide_eq_false (by omega)]
  try simp (disch := first | omega | (simp only [ints_length, List.length_replicate]; done) | (simp only [ints_length, List.length_replicate]; omega)) only [Sall,evalOp,init,binE,binI,unE,convE,okNil,builtE,gv,TD.isAgg,resV,↓reduceIte,Nat.reduceEqDiff,reduceCtorEq,Nat.reduceAdd,Nat.reduceMul,Nat.reduceLeDiff,quietOp,blindOp,Int.reduceEq,Int.reduceLT,Int.reduceLE,Nat.reduceLT,ti2,ti3,ti4,ti45,ti46,ti38,ti25,ti30,ti22,ti32,ti24,ti95,ti172,ti169,ti165,ti166,ti65,ti143,ti87, e0, E0, Ou0, Ow0, Og0, Or0]
  refine (eqInt64S_c r0 w0 _ _ _ hL0 H12 Fr0.rd Fw0.rd).to ?_
  try simp (disch := first | omega | (simp only [ints_length, List.length_replicate]; done) | (simp only [ints_length, List.length_replicate]; omega)) only [Sall,evalOp,init,binE,binI,unE,convE,okNil,builtE,gv,TD.isAgg,resV,↓reduceIte,Nat.reduceEqDiff,reduceCtorEq,Nat.reduceAdd,Nat.reduceMul,Nat.reduceLeDiff,quietOp,blindOp,Int.reduceEq,Int.reduceLT,Int.reduceLE,Nat.reduceLT,ti2,ti3,ti4,ti45,ti46,ti38,ti25,ti30,ti22,ti32,ti24,ti95,ti172,ti169,ti165,ti166,ti65,ti143,ti87, Bool.not_true, bne_self_eq_false, e0, E0, Ou0, Ow0, Og0, Or0]
  refine (markInt64S_c _ H7.next H8.next r0 _ _ _ (by omega) (by omega) H12 Fr0).fin ?_
  rintro H13 ⟨nx13, sm13, KFr0⟩
  have U13 : Up H.next H H13 := ⟨by have := U12.next; omega, fun i hi => by rw [sm13 i (by omega), U12.row i hi]⟩
  replace e0 : H13.row H.next = some ⟨24, true, [.int .i64 q0, v0]⟩ := by rw [sm13 _ (by omega), e0]
  replace E0 : H13.row H5.next = some ⟨32, true, [.int .i64 q0, g0]⟩ := by rw [sm13 _ (by omega), E0]
  replace Fw0 : Fr 1 2 H3.next H4.next H13 w0 _ _ := Fw0.same fun i _ hi => sm13 i (by omega)
  try simp (disch := first | omega | (simp only [ints_length, List.length_replicate]; done) | (simp only [ints_length, List.length_replicate]; omega)) only [Sall,evalOp,init,binE,binI,unE,convE,okNil,builtE,gv,TD.isAgg,resV,↓reduceIte,Nat.reduceEqDiff,reduceCtorEq,Nat.reduceAdd,Nat.reduceMul,Nat.reduceLeDiff,quietOp,blindOp,Int.reduceEq,Int.reduceLT,Int.reduceLE,Nat.reduceLT,ti2,ti3,ti4,ti45,ti46,ti38,ti25,ti30,ti22,ti32,ti24,ti95,ti172,ti169,ti165,ti166,ti65,ti143,ti87, e0, E0, Ou0, Ow0, Og0, Or0]
  refine (heldInt64S_c r0 _ _ (by omega) (by omega) H13 KFr0.rd).to ?_
  try simp (disch := first | omega | (simp only [ints_length, List.length_replicate]; done) | (simp only [ints_length, List.length_replicate]; omega)) only [Sall,evalOp,init,binE,binI,unE,convE,okNil,builtE,gv,TD.isAgg,resV,↓reduceIte,Nat.reduceEqDiff,reduceCtorEq,Nat.reduceAdd,Nat.reduceMul,Nat.reduceLeDiff,quietOp,blindOp,Int.reduceEq,Int.reduceLT,Int.reduceLE,Nat.reduceLT,ti2,ti3,ti4,ti45,ti46,ti38,ti25,ti30,ti22,ti32,ti24,ti95,ti172,ti169,ti165,ti166,ti65,ti143,ti87, bne_self_eq_false, beq_self_eq_true, Bool.not_true, e0, E0, Ou0, Ow0, Og0, Or0]
  rw [decide_eq_false (by omega)]
  try simp (disch := first | omega | (simp only [ints_length, List.length_replicate]; done) | (simp only [ints_length, List.length_replicate]; omega)) only [Sall,evalOp,init,binE,binI,unE,convE,okNil,builtE,gv,TD.isAgg,resV,↓reduceIte,Nat.reduceEqDiff,reduceCtorEq,Nat.reduceAdd,Nat.reduceMul,Nat.reduceLeDiff,quietOp,blindOp,Int.reduceEq,Int.reduceLT,Int.reduceLE,Nat.reduceLT,ti2,ti3,ti4,ti45,ti46,ti38,ti25,ti30,ti22,ti32,ti24,ti95,ti172,ti169,ti165,ti166,ti65,ti143,ti87, bne_self_eq_false, beq_self_eq_true, Bool.not_true, e0, E0, Ou0, Ow0, Og0, Or0]
  refine (toSchedule_c q0 v0 n0 l0 H13 (h0.same (U13.le hs).row) (by omega)).ex ?_
  rintro x0 H14 ⟨up14, Fx0⟩
  have nx14 := up14.next
  have U14 : Up H.next H H14 := U13.trans up14 (by omega)
  replace e0 : H14.row H.next = some ⟨24, true, [.int .i64 q0, v0]⟩ := by rw [up14.row _ (by omega), e0]
  replace E0 : H14.row H5.next = some ⟨32, true, [.int .i64 q0, g0]⟩ := by rw [up14.row _ (by omega), E0]
  replace Fw0 : Fr 1 2 H3.next H4.next H14 w0 _ _ := Fw0.same fun i _ hi => up14.row i (by omega)
  replace KFr0 : Fr 1 2 H7.next H8.next H14 r0 _ _ := KFr0.same fun i _ hi => up14.row i (by omega)
  have Ox0 := Fx0.rd.one
  try simp (disch := first | omega | (simp only [ints_length, List.length_replicate]; done) | (simp only [ints_length, List.length_replicate]; omega)) only [Sall,evalOp,init,binE,binI,unE,convE,okNil,builtE,gv,TD.isAgg,resV,↓reduceIte,Nat.reduceEqDiff,reduceCtorEq,Nat.reduceAdd,Nat.reduceMul,Nat.reduceLeDiff,quietOp,blindOp,Int.reduceEq,Int.reduceLT,Int.reduceLE,Nat.reduceLT,ti2,ti3,ti4,ti45,ti46,ti38,ti25,ti30,ti22,ti32,ti24,ti95,ti172,ti169,ti165,ti166,ti65,ti143,ti87, e0, E0, Ou0, Ow0, Og0, Or0, Ox0]
  refine (toInt64SS_c v1 ll1 H14 (h1.same (U14.le hs).row) (by omega) (fun y hy => by have := d1 y hy; omega)).mono ?_
  rintro x1 H15 ⟨up15, Fx1⟩
  have nx15 := up15.next
  have U15 : Up H.next H H15 := U14.trans up15 (by omega)
  replace e0 : H15.row H.next = some ⟨24, true, [.int .i64 q0, v0]⟩ := by rw [up15.row _ (by omega), e0]
  replace E0 : H15.row H5.next = some ⟨32, true, [.int .i64 q0, g0]⟩ := by rw [up15.row _ (by omega), E0]
  replace Fw0 : Fr 1 2 H3.next H4.next H15 w0 _ _ := Fw0.same fun i _ hi => up15.row i (by omega)
  replace KFr0 : Fr 1 2 H7.next H8.next H15 r0 _ _ := KFr0.same fun i _ hi => up15.row i (by omega)
  replace Fx0 : Fr 14 46 H13.next H14.next H15 x0 n0 l0 := Fx0.same fun i _ hi => up15.row i (by omega)
  refine Holds.mp ?_
  try simp (disch := first | omega | (simp only [ints_length, List.length_replicate]; done) | (simp only [ints_length, List.length_replicate]; omega)) only [Sall,evalOp,init,binE,binI,unE,convE,okNil,builtE,gv,TD.isAgg,resV,↓reduceIte,Nat.reduceEqDiff,reduceCtorEq,Nat.reduceAdd,Nat.reduceMul,Nat.reduceLeDiff,quietOp,blindOp,Int.reduceEq,Int.reduceLT,Int.reduceLE,Nat.reduceLT,ti2,ti3,ti4,ti45,ti46,ti38,ti25,ti30,ti22,ti32,ti24,ti95,ti172,ti169,ti165,ti166,ti65,ti143,ti87, e0, E0, Ou0, Ow0, Og0, Or0, Ox0]
  refine (FirstTeams_c q0 x0 n0 l0 x1 ll1 H15 Fx0.rs (by omega) Fx1.rd (by omega) (fun y hy => by have := d1 y hy; omega)).ex ?_
  rintro s0 H16 ⟨up16, Fs0⟩
  have nx16 := up16.next
  have U16 : Up H.next H H16 := U15.trans up16 (by omega)
  replace e0 : H16.row H.next = some ⟨24, true, [.int .i64 q0, v0]⟩ := by rw [up16.row _ (by omega), e0]
  replace E0 : H16.row H5.next = some ⟨32, true, [.int .i64 q0, g0]⟩ := by rw [up16.row _ (by omega), E0]
  replace Fw0 : Fr 1 2 H3.next H4.next H16 w0 _ _ := Fw0.same fun i _ hi => up16.row i (by omega)
  replace KFr0 : Fr 1 2 H7.next H8.next H16 r0 _ _ := KFr0.same fun i _ hi => up16.row i (by omega)
  replace Fx0 : Fr 14 46 H13.next H14.next H16 x0 n0 l0 := Fx0.same fun i _ hi => up16.row i (by omega)
  replace Fx1 : Fr2 1 38 2 H14.next H15.next H16 x1 ll1 := Fx1.same fun i _ hi => up16.row i (by omega)
  have Os0 := Fs0.rd.one
  try simp (disch := first | omega | (simp only [ints_length, List.length_replicate]; done) | (simp only [ints_length, List.length_replicate]; omega)) only [Sall,evalOp,init,binE,binI,unE,convE,okNil,builtE,gv,TD.isAgg,resV,↓reduceIte,Nat.reduceEqDiff,reduceCtorEq,Nat.reduceAdd,Nat.reduceMul,Nat.reduceLeDiff,quietOp,blindOp,Int.reduceEq,Int.reduceLT,Int.reduceLE,Nat.reduceLT,ti2,ti3,ti4,ti45,ti46,ti38,ti25,ti30,ti22,ti32,ti24,ti95,ti172,ti169,ti165,ti166,ti65,ti143,ti87, e0, E0, Ou0, Ow0, Og0, Or0, Ox0, Os0]
  refine (eqInt64S_c s0 w0 _ _ _ hL0 H16 Fs0.rd Fw0.rd).to ?_
  try simp (disch := first | omega | (simp only [ints_length, List.length_replicate]; done) | (simp only [ints_length, List.length_replicate]; omega)) only [Sall,evalOp,init,binE,binI,unE,convE,okNil,builtE,gv,TD.isAgg,resV,↓reduceIte,Nat.reduceEqDiff,reduceCtorEq,Nat.reduceAdd,Nat.reduceMul,Nat.reduceLeDiff,quietOp,blindOp,Int.reduceEq,Int.reduceLT,Int.reduceLE,Nat.reduceLT,ti2,ti3,ti4,ti45,ti46,ti38,ti25,ti30,ti22,ti32,ti24,ti95,ti172,ti169,ti165,ti166,ti65,ti143,ti87, Bool.not_true, bne_self_eq_false, e0, E0, Ou0, Ow0, Og0, Or0, Ox0, Os0]
  refine (heldInt64S_c r0 _ _ (by omega) (by omega) H16 KFr0.rd).to ?_
  try simp (disch := first | omega | (simp only [ints_length, List.length_replicate]; done) | (simp only [ints_length, List.length_replicate]; omega)) only [Sall,evalOp,init,binE,binI,unE,convE,okNil,builtE,gv,TD.isAgg,resV,↓reduceIte,Nat.reduceEqDiff,reduceCtorEq,Nat.reduceAdd,Nat.reduceMul,Nat.reduceLeDiff,quietOp,blindOp,Int.reduceEq,Int.reduceLT,Int.reduceLE,Nat.reduceLT,ti2,ti3,ti4,ti45,ti46,ti38,ti25,ti30,ti22,ti32,ti24,ti95,ti172,ti169,ti165,ti166,ti65,ti143,ti87, bne_self_eq_false, beq_self_eq_true, Bool.not_true, e0, E0, Ou0, Ow0, Og0, Or0, Ox0, Os0]
  rw [decide_eq_false (by omega)]
  try simp (disch := first | omega | (simp only [ints_length, List.length_replicate]; done) | (simp only [ints_length, List.length_replicate]; omega)) only [Sall,evalOp,init,binE,binI,unE,convE,okNil,builtE,gv,TD.isAgg,resV,↓reduceIte,Nat.reduceEqDiff,reduceCtorEq,Nat.reduceAdd,Nat.reduceMul,Nat.reduceLeDiff,quietOp,blindOp,Int.reduceEq,Int.reduceLT,Int.reduceLE,Nat.reduceLT,ti2,ti3,ti4,ti45,ti46,ti38,ti25,ti30,ti22,ti32,ti24,ti95,ti172,ti169,ti165,ti166,ti65,ti143,ti87, bne_self_eq_false, beq_self_eq_true, Bool.not_true, e0, E0, Ou0, Ow0, Og0, Or0, Ox0, Os0]
end Go.Proofs.Ytgkmdfjjlghecaa.A
end

section
set_option linter.unusedVariables false
set_option maxRecDepth 100000
namespace Go.Proofs.Ytgkmdfjjlghecaa.A
open Go Go.Abs Go.RowKit
section
variable {K : Type} {enc : TypeId × Value → K} {W : World} {base b0 : Nat} {spare : Nat → Bool} {held : Bool}

theorem uInt : Try.prog.underlying 2 = some (.int .i64) := by kernel_rfl
theorem uArr : Try.prog.underlying 45 = some (.array 14 2) := by kernel_rfl
theorem uRounds : Try.prog.underlying 22 = some (.slice 45) := by kernel_rfl
theorem cInt : Try.prog.cellsOf 2 = 1 := by kernel_rfl
theorem cArr : Try.prog.cellsOf 45 = 14 := by kernel_rfl
theorem cRounds : Try.prog.cellsOf 22 = 1 := by kernel_rfl
theorem cSched : Try.prog.cellsOf 24 = 2 := by kernel_rfl
theorem fSched : fieldsOf Try.prog 24 = some [(2, 0), (22, 1)] := by kernel_rfl

theorem open_rounds {fuel : Nat} {v : Value} {x : DataW K × List MemPlace} (h : DataW.trod enc Try.prog W base spare held fuel 22 [v] = some x) (hok : Cell.okWide Try.prog W .any 0 22 v) :
    ∃ n l, Rd 14 (given W) v n l ∧ V1 id W.heap.size W v v ∧ n ≤ 9223372036854775807 := by
  have h1 := ok_slice_cell uRounds hok
  obtain ⟨n, l, hr, hv, hh⟩ := trod_ints uRounds cArr (by omega) (intsOf_array uArr uInt cInt cArr) h (h1.imp id fun ⟨b, o, n, c, e, hb, _⟩ => ⟨b, o, n, c, e, hb⟩)
  refine ⟨n, l, hr, hv, ?_⟩
  rcases hh with ⟨_, rfl⟩ | ⟨b, o, c, rfl⟩
  · omega
  · rcases h1 with h1 | ⟨b', o', n', c', e, _, hn⟩
    · cases h1
    · cases e; exact hn

theorem open_sched {fuel : Nat} {c0 c1 : Value} {x : DataW K × List MemPlace} (h : DataW.trod enc Try.prog W base spare held fuel 24 [c0, c1] = some x) (hok : Cell.okWide Try.prog W .any 0 22 c1) :
    ∃ q n l, c0 = .int .i64 q ∧ Rd 14 (given W) c1 n l ∧ V1 id W.heap.size W c1 c1 ∧ n ≤ 9223372036854775807 := by
  obtain ⟨m, hf⟩ := trod_fields fSched h
  obtain ⟨y0, h0⟩ := hf (2, 0) (by simp)
  obtain ⟨y1, h1⟩ := hf (22, 1) (by simp)
  simp only [cInt, cRounds] at h0 h1
  obtain ⟨q, hq, _⟩ := DataW.trod_int uInt h0
  obtain ⟨n, l, hr, hv, hn⟩ := open_rounds h1 hok
  exact ⟨q, n, l, by simpa using hq, hr, hv, hn⟩
end
end Go.Proofs.Ytgkmdfjjlghecaa.A
end

section
set_option linter.unusedVariables false
set_option maxRecDepth 100000
namespace Go.Proofs.Ytgkmdfjjlghecaa.A
open Go Go.Abs Go.RowKit
theorem tSched : Try.prog.cellTypes Try.prog.depth 24 = some [2, 22] := by kernel_rfl
theorem uList : Try.prog.underlying 38 = some (.slice 2) := by kernel_rfl
theorem uLists : Try.prog.underlying 25 = some (.slice 38) := by kernel_rfl
theorem cList : Try.prog.cellsOf 38 = 1 := by kernel_rfl
section
variable {K : Type} {enc : TypeId × Value → K} {W : World} {b0 : Nat} {spare : Nat → Bool} {held : Bool} {v : Value} {d : DataW K} {p : List MemPlace}

theorem open_S (h : DataW.Trod enc Try.prog W 0 spare held 24 v d p) (hok : Value.okWide Try.prog W .any b0 24 v) :
    ∃ q u n l, v = .agg #[.int .i64 q, u] ∧ Rd 14 (given W) u n l ∧ V1 id W.heap.size W u u ∧ n ≤ 9223372036854775807 := by
  obtain ⟨cs, rfl, hs, hc⟩ := ok_struct fSched tSched hok
  rw [cSched] at hs
  obtain ⟨l⟩ := cs
  match l, hs with
  | [c0, c1], _ =>
    obtain ⟨fuel, h⟩ := h
    obtain ⟨e, he, k1⟩ := hc 1 c1 rfl
    cases he
    obtain ⟨q, n, l, rfl, r1, v1, n1⟩ := open_sched h k1
    exact ⟨q, c1, n, l, rfl, r1, v1, n1⟩

theorem open_I (h : DataW.Trod enc Try.prog W 0 spare held 2 v d p) (hok : Value.okWide Try.prog W .any b0 2 v) : ∃ a, v = .int .i64 a ∧ -9223372036854775808 ≤ a ∧ a ≤ 9223372036854775807 := by
  obtain ⟨fuel, h⟩ := h
  obtain ⟨a, ha, hx⟩ := DataW.trod_int uInt h
  unfold Value.okWide at hok
  rw [uInt] at hok
  have h2 : Cell.okWide Try.prog W .any b0 2 v := hok
  unfold Cell.okWide at h2
  rw [uInt] at h2
  have h3 : Cell.ok Try.prog W .any b0 2 v := h2
  unfold Cell.ok at h3
  rw [uInt] at h3
  cases v with
  | int k n =>
    obtain ⟨rfl, h4, h5⟩ := h3
    exact ⟨n, rfl, h4, h5⟩
  | _ => exact False.elim h3

theorem cell_of_val {t e : TypeId} (hu : Try.prog.underlying t = some (.slice e)) (hok : Value.okWide Try.prog W .any b0 t v) : Cell.okWide Try.prog W .any 0 t v := by
  unfold Value.okWide at hok
  rw [hu] at hok
  exact hok

theorem cells_slice1 {t e : TypeId} (hu : Try.prog.underlying t = some (.slice e)) (hok : Cell.okWide Try.prog W .any 0 t v) : v.cells.toList = [v] := by
  rcases ok_slice_cell hu hok with rfl | ⟨b, o, n, c, rfl, _⟩ <;> rfl

theorem open_LL (h : DataW.Trod enc Try.prog W 0 spare held 25 v d p) (hok : Value.okWide Try.prog W .any b0 25 v) :
    ∃ ll, Rd2 1 (given W) v ll ∧ V1 id W.heap.size W v v ∧ ll.length ≤ 9223372036854775807 ∧ ∀ y ∈ ll, y.length ≤ 9223372036854775807 := by
  have h0 := cell_of_val uLists hok
  obtain ⟨fuel, h⟩ := h
  rw [cells_slice1 uLists h0] at h
  obtain ⟨ll, h1, h2, h3, h4⟩ := trod_lists uLists uList uInt cList cInt h (ok_slice_cell uLists h0)
  exact ⟨ll, h1, h2, h3, fun y hy => by have := h4 y hy; unfold Go.maxLen at this; omega⟩

theorem open_L (h : DataW.Trod enc Try.prog W 0 spare held 38 v d p) (hok : Value.okWide Try.prog W .any b0 38 v) :
    ∃ n l, Rd 1 (given W) v n l ∧ V1 id W.heap.size W v v ∧ n ≤ 9223372036854775807 := by
  have h0 := cell_of_val uList hok
  obtain ⟨fuel, h⟩ := h
  rw [cells_slice1 uList h0] at h
  have h1 := ok_slice_cell uList h0
  obtain ⟨n, l, hr, hv, hh⟩ := trod_ints uList cInt (by omega) (intsOf_int uInt) h (h1.imp id fun ⟨b, o, n, c, e, hb, _⟩ => ⟨b, o, n, c, e, hb⟩)
  refine ⟨n, l, hr, hv, ?_⟩
  rcases hh with ⟨_, rfl⟩ | ⟨b, o, c, rfl⟩
  · omega
  · rcases h1 with h1 | ⟨b', o', n', c', e, _, hn⟩
    · cases h1
    · cases e; exact hn
end
end Go.Proofs.Ytgkmdfjjlghecaa.A
end
