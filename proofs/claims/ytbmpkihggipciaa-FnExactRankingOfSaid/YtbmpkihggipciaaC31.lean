/- Contracts: the ranking of the teams, on both sides. -/
import Derived.Test.YtbmpkihggipciaaC30
set_option linter.unusedSimpArgs false
set_option linter.unusedVariables false
set_option maxRecDepth 100000
set_option maxHeartbeats 2000000
--LEN ints_length, List.length_replicate, List.length_set
namespace Go.Proofs.Ytbmpkihggipciaa.A
open Go Go.Abs Go.RowKit

def RkS (A : AH) (n : Nat) (l : List Int) (v : Value) (H : AH) : Prop := Fr 1 2 A.next H.next H v n l
def RkP (A : AH) (v : Value) (H : AH) : Prop := ∃ i, v = .pointer (some ⟨i, 0, none⟩) ∧ A.next ≤ i ∧ i < H.next ∧ H.row i = some ⟨28, true, [.slice none 0 0]⟩
theorem RkS.up {A : AH} {n : Nat} {l : List Int} {v : Value} {H H' : AH} (h : RkS A n l v H) (u : Up H.next H H') : RkS A n l v H' :=
  (h.same fun i _ hi => u.row i hi).wide (Nat.le_refl _) u.next
theorem RkP.up {A : AH} {v : Value} {H H' : AH} (h : RkP A v H) (u : Up H.next H H') : RkP A v H' := by
  obtain ⟨i, h1, h2, h3, h4⟩ := h
  exact ⟨i, h1, h2, by have := u.next; omega, by rw [u.row i h3]; exact h4⟩
theorem RkP.ne {A : AH} {v : Value} {H : AH} (h : RkP A v H) : v ≠ .pointer (some ⟨H.next, 0, none⟩) := by
  rintro rfl
  obtain ⟨i, h1, h2, h3, h4⟩ := h
  have : H.next = i := by injection h1 with e; injection e with e; injection e
  omega
theorem RkS.set {A : AH} {n : Nat} {l : List Int} {w : Value} {H : AH} {i : Nat} {cs0 : List Value} (h : RkS A n l w H) (hr : H.row i = some ⟨28, true, cs0⟩) (cs : List Value) : RkS A n l w (H.setCells i cs) := by
  refine ⟨h.1, ?_⟩
  rcases h.2 with h2 | ⟨f, h1, h2, hv, hf⟩
  · exact .inl h2
  · refine .inr ⟨f, h1, h2, hv, ?_⟩
    rw [AH.setCells_row, if_neg]
    · exact hf
    · rintro rfl
      rw [hr] at hf
      injection hf with hf
      injection hf with e
      exact absurd e (by decide)
/-- While some of the calls and some of the cells are still to come. -/
structure RkJ (A : AH) (n : Nat) (ps ss ts : List Int) (sv xv pv : Value) (cs fs : List Nat) (t : T) (H : AH) : Prop where
  hcs : cs = [2, 5, 8] ∨ cs = [5, 8] ∨ cs = [8] ∨ cs = []
  hfs : ∀ a ∈ fs, a = 9 ∨ a = 10 ∨ a = 11
  t9 : t 9 = sv
  t10 : t 10 = xv
  t12 : t 12 = sv
  t13 : t 13 = xv
  t15 : t 15 = sv
  t16 : t 16 = xv
  t2 : t 2 = pv
  up : Up A.next A H
  sc : Sc H
  s1 : 2 ∉ cs → RkS A n ps (t 11) H
  s2 : 5 ∉ cs → RkS A n ss (t 14) H
  s3 : 8 ∉ cs → RkS A n ts (t 17) H
  p1 : 9 ∉ fs → RkP A (t 5) H
  p2 : 10 ∉ fs → RkP A (t 6) H
  p3 : 11 ∉ fs → RkP A (t 7) H
  d1 : 9 ∉ fs → 10 ∉ fs → t 5 ≠ t 6
  d2 : 9 ∉ fs → 11 ∉ fs → t 5 ≠ t 7
  d3 : 10 ∉ fs → 11 ∉ fs → t 6 ≠ t 7
theorem not_erase {a x : Nat} {fs : List Nat} (h : x ∉ fs.erase a) (hne : x ≠ a) : x ∉ fs := fun hm => h ((List.mem_erase_of_ne hne).2 hm)

theorem RkJ.call1 {A : AH} {n : Nat} {ps ss ts : List Int} {sv xv pv w : Value} {fs : List Nat} {t : T} {H H' : AH} (h : RkJ A n ps ss ts sv xv pv [2, 5, 8] fs t H) (u : Up H.next H H') (sc : Sc H') (hf : Fr 1 2 H.next H'.next H' w n ps) : RkJ A n ps ss ts sv xv pv [5, 8] fs (updO t (some 11) w) H' where
  hcs := by simp
  hfs := h.hfs
  t9 := h.t9
  t10 := h.t10
  t12 := h.t12
  t13 := h.t13
  t15 := h.t15
  t16 := h.t16
  t2 := h.t2
  up := h.up.trans u h.up.next
  sc := sc
  s1 := fun _ => hf.wide h.up.next (Nat.le_refl _)
  s2 := fun k => absurd (by simp) k
  s3 := fun k => absurd (by simp) k
  p1 := fun k => (h.p1 k).up u
  p2 := fun k => (h.p2 k).up u
  p3 := fun k => (h.p3 k).up u
  d1 := h.d1
  d2 := h.d2
  d3 := h.d3
theorem RkJ.call2 {A : AH} {n : Nat} {ps ss ts : List Int} {sv xv pv w : Value} {fs : List Nat} {t : T} {H H' : AH} (h : RkJ A n ps ss ts sv xv pv [5, 8] fs t H) (u : Up H.next H H') (sc : Sc H') (hf : Fr 1 2 H.next H'.next H' w n ss) : RkJ A n ps ss ts sv xv pv [8] fs (updO t (some 14) w) H' where
  hcs := by simp
  hfs := h.hfs
  t9 := h.t9
  t10 := h.t10
  t12 := h.t12
  t13 := h.t13
  t15 := h.t15
  t16 := h.t16
  t2 := h.t2
  up := h.up.trans u h.up.next
  sc := sc
  s1 := fun _ => (h.s1 (by simp)).up u
  s2 := fun _ => hf.wide h.up.next (Nat.le_refl _)
  s3 := fun k => absurd (by simp) k
  p1 := fun k => (h.p1 k).up u
  p2 := fun k => (h.p2 k).up u
  p3 := fun k => (h.p3 k).up u
  d1 := h.d1
  d2 := h.d2
  d3 := h.d3
theorem RkJ.call3 {A : AH} {n : Nat} {ps ss ts : List Int} {sv xv pv w : Value} {fs : List Nat} {t : T} {H H' : AH} (h : RkJ A n ps ss ts sv xv pv [8] fs t H) (u : Up H.next H H') (sc : Sc H') (hf : Fr 1 2 H.next H'.next H' w n ts) : RkJ A n ps ss ts sv xv pv [] fs (updO t (some 17) w) H' where
  hcs := by simp
  hfs := h.hfs
  t9 := h.t9
  t10 := h.t10
  t12 := h.t12
  t13 := h.t13
  t15 := h.t15
  t16 := h.t16
  t2 := h.t2
  up := h.up.trans u h.up.next
  sc := sc
  s1 := fun _ => (h.s1 (by simp)).up u
  s2 := fun _ => (h.s2 (by simp)).up u
  s3 := fun _ => hf.wide h.up.next (Nat.le_refl _)
  p1 := fun k => (h.p1 k).up u
  p2 := fun k => (h.p2 k).up u
  p3 := fun k => (h.p3 k).up u
  d1 := h.d1
  d2 := h.d2
  d3 := h.d3
theorem RkJ.free1 {A : AH} {n : Nat} {ps ss ts : List Int} {sv xv pv : Value} {cs fs : List Nat} {t : T} {H : AH} (h : RkJ A n ps ss ts sv xv pv cs fs t H) : RkJ A n ps ss ts sv xv pv cs (fs.erase 9) (upd t 5 (.pointer (some ⟨H.next, 0, none⟩))) (H.push ⟨28, true, [.slice none 0 0]⟩) where
  hcs := h.hcs
  hfs := fun a ha => h.hfs a (List.mem_of_mem_erase ha)
  t9 := h.t9
  t10 := h.t10
  t12 := h.t12
  t13 := h.t13
  t15 := h.t15
  t16 := h.t16
  t2 := h.t2
  up := h.up.push h.up.next _
  sc := h.sc.push _
  s1 := fun k => (h.s1 k).up ((Up.refl _ H).push (Nat.le_refl _) _)
  s2 := fun k => (h.s2 k).up ((Up.refl _ H).push (Nat.le_refl _) _)
  s3 := fun k => (h.s3 k).up ((Up.refl _ H).push (Nat.le_refl _) _)
  p1 := fun _ => ⟨H.next, rfl, h.up.next, Nat.lt_succ_self _, by rw [AH.push_row, if_pos rfl]⟩
  p2 := fun k => (h.p2 (not_erase k (by decide))).up ((Up.refl _ H).push (Nat.le_refl _) _)
  p3 := fun k => (h.p3 (not_erase k (by decide))).up ((Up.refl _ H).push (Nat.le_refl _) _)
  d1 := fun _ k2 => (h.p2 (not_erase k2 (by decide))).ne.symm
  d2 := fun _ k2 => (h.p3 (not_erase k2 (by decide))).ne.symm
  d3 := fun k1 k2 => h.d3 (not_erase k1 (by decide)) (not_erase k2 (by decide))
theorem RkJ.free2 {A : AH} {n : Nat} {ps ss ts : List Int} {sv xv pv : Value} {cs fs : List Nat} {t : T} {H : AH} (h : RkJ A n ps ss ts sv xv pv cs fs t H) : RkJ A n ps ss ts sv xv pv cs (fs.erase 10) (upd t 6 (.pointer (some ⟨H.next, 0, none⟩))) (H.push ⟨28, true, [.slice none 0 0]⟩) where
  hcs := h.hcs
  hfs := fun a ha => h.hfs a (List.mem_of_mem_erase ha)
  t9 := h.t9
  t10 := h.t10
  t12 := h.t12
  t13 := h.t13
  t15 := h.t15
  t16 := h.t16
  t2 := h.t2
  up := h.up.push h.up.next _
  sc := h.sc.push _
  s1 := fun k => (h.s1 k).up ((Up.refl _ H).push (Nat.le_refl _) _)
  s2 := fun k => (h.s2 k).up ((Up.refl _ H).push (Nat.le_refl _) _)
  s3 := fun k => (h.s3 k).up ((Up.refl _ H).push (Nat.le_refl _) _)
  p1 := fun k => (h.p1 (not_erase k (by decide))).up ((Up.refl _ H).push (Nat.le_refl _) _)
  p2 := fun _ => ⟨H.next, rfl, h.up.next, Nat.lt_succ_self _, by rw [AH.push_row, if_pos rfl]⟩
  p3 := fun k => (h.p3 (not_erase k (by decide))).up ((Up.refl _ H).push (Nat.le_refl _) _)
  d1 := fun k1 _ => (h.p1 (not_erase k1 (by decide))).ne
  d2 := fun k1 k2 => h.d2 (not_erase k1 (by decide)) (not_erase k2 (by decide))
  d3 := fun _ k2 => (h.p3 (not_erase k2 (by decide))).ne.symm
theorem RkJ.free3 {A : AH} {n : Nat} {ps ss ts : List Int} {sv xv pv : Value} {cs fs : List Nat} {t : T} {H : AH} (h : RkJ A n ps ss ts sv xv pv cs fs t H) : RkJ A n ps ss ts sv xv pv cs (fs.erase 11) (upd t 7 (.pointer (some ⟨H.next, 0, none⟩))) (H.push ⟨28, true, [.slice none 0 0]⟩) where
  hcs := h.hcs
  hfs := fun a ha => h.hfs a (List.mem_of_mem_erase ha)
  t9 := h.t9
  t10 := h.t10
  t12 := h.t12
  t13 := h.t13
  t15 := h.t15
  t16 := h.t16
  t2 := h.t2
  up := h.up.push h.up.next _
  sc := h.sc.push _
  s1 := fun k => (h.s1 k).up ((Up.refl _ H).push (Nat.le_refl _) _)
  s2 := fun k => (h.s2 k).up ((Up.refl _ H).push (Nat.le_refl _) _)
  s3 := fun k => (h.s3 k).up ((Up.refl _ H).push (Nat.le_refl _) _)
  p1 := fun k => (h.p1 (not_erase k (by decide))).up ((Up.refl _ H).push (Nat.le_refl _) _)
  p2 := fun k => (h.p2 (not_erase k (by decide))).up ((Up.refl _ H).push (Nat.le_refl _) _)
  p3 := fun _ => ⟨H.next, rfl, h.up.next, Nat.lt_succ_self _, by rw [AH.push_row, if_pos rfl]⟩
  d1 := fun k1 k2 => h.d1 (not_erase k1 (by decide)) (not_erase k2 (by decide))
  d2 := fun k1 _ => (h.p1 (not_erase k1 (by decide))).ne
  d3 := fun k1 _ => (h.p2 (not_erase k1 (by decide))).ne

theorem ranking_c (n : Nat) (v : Value) (k : Nat) (l : List Int) (x : Value) (ll : List (List Int)) (ps ss ts : List Int) (H : AH) (hb : schedB n k l = true) (hres : resB n k l ll = true) (hl : ll.length ≤ 4294967296) (hv : Rd 14 H v k l) (hx : Rd2 1 H x ll)
    (hps : ps = sumsF n (fun _ o => o) (meets n l ll ll.length)) (hss : ss = sumsF n (sumF false ps) (meets n l ll ll.length)) (hts : ts = sumsF n (sumF true ps) (meets n l ll ll.length)) :
    ACalls Try.prog 110 [.agg #[.int .i64 n, v], x] H (fun u H' => Up H.next H H' ∧ Fr 1 2 H.next H'.next H' u n (rankL (ahd ps ss ts) n)) := by
  refine ACalls.wf (by kernel_rfl) fun hs => acalls_of_awp [.tmp 4] Try.func110 (by kernel_rfl) rfl rfl (Nat.le_of_ble_eq_true rfl) (by kernel_rfl) ?_
  obtain ⟨hn, _, _⟩ := schedB_at hb
  have hone := hv.one
  have hxone := hx.one
  have hpl : ps.length = n := by rw [hps, sumsF_length]
  have hsl : ss.length = n := by rw [hss, sumsF_length]
  have htl : ts.length = n := by rw [hts, sumsF_length]
  have up : Up H.next H (H.push ⟨33, true, [.int .i64 n, v]⟩) := (Up.refl _ H).push (Nat.le_refl _) _
  have e1 : (H.push ⟨33, true, [.int .i64 n, v]⟩).row H.next = some ⟨33, true, [.int .i64 n, v]⟩ := by rw [AH.push_row, if_pos rfl]
  have n1 : (H.push ⟨33, true, [.int .i64 n, v]⟩).next = H.next + 1 := rfl
  have sc1 : Sc (H.push ⟨33, true, [.int .i64 n, v]⟩) := Sc.push hs _
  try simp (disch := first | omega | (simp only [ints_length, List.length_replicate, List.length_set]; done) | (simp only [ints_length, List.length_replicate, List.length_set]; omega)) only [Sall,evalOp,init,binE,binI,unE,convE,okNil,builtE,gv,TD.isAgg,resV,↓reduceIte,Nat.reduceEqDiff,reduceCtorEq,Nat.reduceAdd,Nat.reduceMul,Nat.reduceLeDiff,quietOp,blindOp,Int.reduceEq,Int.reduceLT,Int.reduceLE,Nat.reduceLT,ti2,ti3,ti4,ti79,ti80,ti28,ti25,ti31,ti22,ti33,ti24,ti67,ti111,ti145,ti136,ti137,ti117,ti100, hone]
  revert up e1 n1 sc1
  generalize H.push ⟨33, true, [.int .i64 n, v]⟩ = H1
  intro up e1 n1 sc1
  have hvU : ∀ H' : AH, Up H1.next H1 H' → Rd 14 H' v k l := fun H' u => hv.same fun i r hr => by
    have hi := hs _ _ hr
    rw [u.row i (by omega), up.row i hi]; exact hr
  have hxU : ∀ H' : AH, Up H1.next H1 H' → Rd2 1 H' x ll := fun H' u => hx.same fun i r hr => by
    have hi := hs _ _ hr
    rw [u.row i (by omega), up.row i hi]; exact hr
  refine awp_cutQ (fun t H2 => ∃ (i5 i6 i7 : Nat) (v1 v2 v3 : Value), t 5 = .pointer (some ⟨i5, 0, none⟩) ∧ t 6 = .pointer (some ⟨i6, 0, none⟩) ∧ t 7 = .pointer (some ⟨i7, 0, none⟩) ∧ t 2 = .pointer (some ⟨H.next, 0, none⟩) ∧ Up H1.next H1 H2 ∧ Sc H2 ∧
    i5 < H2.next ∧ i6 < H2.next ∧ i7 < H2.next ∧ H2.row i5 = some ⟨28, true, [v1]⟩ ∧ H2.row i6 = some ⟨28, true, [v2]⟩ ∧ H2.row i7 = some ⟨28, true, [v3]⟩ ∧ RkS H1 n ps v1 H2 ∧ RkS H1 n ss v2 H2 ∧ RkS H1 n ts v3 H2) ?_ ?_
  · refine draw_pool [0, 1, 3, 4, 6, 7] [2, 5, 8] [9, 10, 11] (OT.run [12, 13, 14] .nil) (by kernel_rfl) (by kernel_rfl) (Nat.le_of_ble_eq_true rfl) (RkJ H1 n ps ss ts (.agg #[.int .i64 n, v]) x (.pointer (some ⟨H.next, 0, none⟩))) ⟨?_, ?_, ?_⟩ ?_
    · intro c cs fs t H2 hJ
      rcases hJ.hcs with e | e | e | e
      · injection e with e1 e2
        subst e1; subst e2
        have hc := points_c n v k l x ll H2 hb hres hl (hvU H2 hJ.up) (hxU H2 hJ.up)
        rw [← hps] at hc
        try simp (disch := first | omega | (simp only [ints_length, List.length_replicate, List.length_set]; done) | (simp only [ints_length, List.length_replicate, List.length_set]; omega)) only [Sall,evalOp,init,binE,binI,unE,convE,okNil,builtE,gv,TD.isAgg,resV,↓reduceIte,Nat.reduceEqDiff,reduceCtorEq,Nat.reduceAdd,Nat.reduceMul,Nat.reduceLeDiff,quietOp,blindOp,Int.reduceEq,Int.reduceLT,Int.reduceLE,Nat.reduceLT,ti2,ti3,ti4,ti79,ti80,ti28,ti25,ti31,ti22,ti33,ti24,ti67,ti111,ti145,ti136,ti137,ti117,ti100, awpT_nil, awpT_one, awpT_run_nil, awpT_run_cons, hJ.t9, hJ.t10]
        refine hc.sc.mono ?_
        rintro w H3 ⟨⟨up3, hf3⟩, sc3⟩
        exact ⟨.inr (.inr (up3.le hJ.sc)), hJ.call1 up3 sc3 hf3⟩
      · injection e with e1 e2
        subst e1; subst e2
        have hc := second_c n v k l x ll H2 hb hres hl (hvU H2 hJ.up) (hxU H2 hJ.up)
        rw [second_sum, ← hps, ← hss] at hc
        try simp (disch := first | omega | (simp only [ints_length, List.length_replicate, List.length_set]; done) | (simp only [ints_length, List.length_replicate, List.length_set]; omega)) only [Sall,evalOp,init,binE,binI,unE,convE,okNil,builtE,gv,TD.isAgg,resV,↓reduceIte,Nat.reduceEqDiff,reduceCtorEq,Nat.reduceAdd,Nat.reduceMul,Nat.reduceLeDiff,quietOp,blindOp,Int.reduceEq,Int.reduceLT,Int.reduceLE,Nat.reduceLT,ti2,ti3,ti4,ti79,ti80,ti28,ti25,ti31,ti22,ti33,ti24,ti67,ti111,ti145,ti136,ti137,ti117,ti100, awpT_nil, awpT_one, awpT_run_nil, awpT_run_cons, hJ.t12, hJ.t13]
        refine hc.sc.mono ?_
        rintro w H3 ⟨⟨up3, hf3⟩, sc3⟩
        exact ⟨.inr (.inr (up3.le hJ.sc)), hJ.call2 up3 sc3 hf3⟩
      · injection e with e1 e2
        subst e1; subst e2
        have hc := third_c n v k l x ll H2 hb hres hl (hvU H2 hJ.up) (hxU H2 hJ.up)
        rw [third_sum, ← hps, ← hts] at hc
        try simp (disch := first | omega | (simp only [ints_length, List.length_replicate, List.length_set]; done) | (simp only [ints_length, List.length_replicate, List.length_set]; omega)) only [Sall,evalOp,init,binE,binI,unE,convE,okNil,builtE,gv,TD.isAgg,resV,↓reduceIte,Nat.reduceEqDiff,reduceCtorEq,Nat.reduceAdd,Nat.reduceMul,Nat.reduceLeDiff,quietOp,blindOp,Int.reduceEq,Int.reduceLT,Int.reduceLE,Nat.reduceLT,ti2,ti3,ti4,ti79,ti80,ti28,ti25,ti31,ti22,ti33,ti24,ti67,ti111,ti145,ti136,ti137,ti117,ti100, awpT_nil, awpT_one, awpT_run_nil, awpT_run_cons, hJ.t15, hJ.t16]
        refine hc.sc.mono ?_
        rintro w H3 ⟨⟨up3, hf3⟩, sc3⟩
        exact ⟨.inr (.inr (up3.le hJ.sc)), hJ.call3 up3 sc3 hf3⟩
      · cases e
    · intro a cs fs t H2 ha hJ
      rcases hJ.hfs a ha with rfl | rfl | rfl
      · try simp (disch := first | omega | (simp only [ints_length, List.length_replicate, List.length_set]; done) | (simp only [ints_length, List.length_replicate, List.length_set]; omega)) only [Sall,evalOp,init,binE,binI,unE,convE,okNil,builtE,gv,TD.isAgg,resV,↓reduceIte,Nat.reduceEqDiff,reduceCtorEq,Nat.reduceAdd,Nat.reduceMul,Nat.reduceLeDiff,quietOp,blindOp,Int.reduceEq,Int.reduceLT,Int.reduceLE,Nat.reduceLT,ti2,ti3,ti4,ti79,ti80,ti28,ti25,ti31,ti22,ti33,ti24,ti67,ti111,ti145,ti136,ti137,ti117,ti100, awpT_nil, awpT_one, awpT_run_nil, awpT_run_cons]
        exact ⟨.inr (.inr (hJ.sc.le _)), hJ.free1⟩
      · try simp (disch := first | omega | (simp only [ints_length, List.length_replicate, List.length_set]; done) | (simp only [ints_length, List.length_replicate, List.length_set]; omega)) only [Sall,evalOp,init,binE,binI,unE,convE,okNil,builtE,gv,TD.isAgg,resV,↓reduceIte,Nat.reduceEqDiff,reduceCtorEq,Nat.reduceAdd,Nat.reduceMul,Nat.reduceLeDiff,quietOp,blindOp,Int.reduceEq,Int.reduceLT,Int.reduceLE,Nat.reduceLT,ti2,ti3,ti4,ti79,ti80,ti28,ti25,ti31,ti22,ti33,ti24,ti67,ti111,ti145,ti136,ti137,ti117,ti100, awpT_nil, awpT_one, awpT_run_nil, awpT_run_cons]
        exact ⟨.inr (.inr (hJ.sc.le _)), hJ.free2⟩
      · try simp (disch := first | omega | (simp only [ints_length, List.length_replicate, List.length_set]; done) | (simp only [ints_length, List.length_replicate, List.length_set]; omega)) only [Sall,evalOp,init,binE,binI,unE,convE,okNil,builtE,gv,TD.isAgg,resV,↓reduceIte,Nat.reduceEqDiff,reduceCtorEq,Nat.reduceAdd,Nat.reduceMul,Nat.reduceLeDiff,quietOp,blindOp,Int.reduceEq,Int.reduceLT,Int.reduceLE,Nat.reduceLT,ti2,ti3,ti4,ti79,ti80,ti28,ti25,ti31,ti22,ti33,ti24,ti67,ti111,ti145,ti136,ti137,ti117,ti100, awpT_nil, awpT_one, awpT_run_nil, awpT_run_cons]
        exact ⟨.inr (.inr (hJ.sc.le _)), hJ.free3⟩
    · intro t H2 hJ
      obtain ⟨i5, h5, a5, b5, r5⟩ := hJ.p1 (by simp)
      obtain ⟨i6, h6, a6, b6, r6⟩ := hJ.p2 (by simp)
      obtain ⟨i7, h7, a7, b7, r7⟩ := hJ.p3 (by simp)
      have d56 : ¬ i5 = i6 := fun e => hJ.d1 (by simp) (by simp) (by rw [h5, h6, e])
      have d57 : ¬ i5 = i7 := fun e => hJ.d2 (by simp) (by simp) (by rw [h5, h7, e])
      have d67 : ¬ i6 = i7 := fun e => hJ.d3 (by simp) (by simp) (by rw [h6, h7, e])
      have d65 : ¬ i6 = i5 := fun e => d56 e.symm
      have d75 : ¬ i7 = i5 := fun e => d57 e.symm
      have d76 : ¬ i7 = i6 := fun e => d67 e.symm
      have f1 := hJ.s1 (by simp)
      have f2 := hJ.s2 (by simp)
      have f3 := hJ.s3 (by simp)
      have o1 := Rd.one (Fr.rd f1)
      have o2 := Rd.one (Fr.rd f2)
      have o3 := Rd.one (Fr.rd f3)
      have t2 := hJ.t2
      have hup := hJ.up
      have hsc := hJ.sc
      try simp (disch := first | omega | (simp only [ints_length, List.length_replicate, List.length_set]; done) | (simp only [ints_length, List.length_replicate, List.length_set]; omega)) only [Sall,evalOp,init,binE,binI,unE,convE,okNil,builtE,gv,TD.isAgg,resV,↓reduceIte,Nat.reduceEqDiff,reduceCtorEq,Nat.reduceAdd,Nat.reduceMul,Nat.reduceLeDiff,quietOp,blindOp,Int.reduceEq,Int.reduceLT,Int.reduceLE,Nat.reduceLT,ti2,ti3,ti4,ti79,ti80,ti28,ti25,ti31,ti22,ti33,ti24,ti67,ti111,ti145,ti136,ti137,ti117,ti100, awpT_nil, awpT_one, awpT_run_nil, awpT_run_cons, h5, h6, h7, r5, r6, r7, o1, o2, o3, d56, d57, d67, d65, d75, d76, t2]
      refine ⟨.inr (.inl (by kernel_rfl)), ?_⟩
      try simp (disch := first | omega | (simp only [ints_length, List.length_replicate, List.length_set]; done) | (simp only [ints_length, List.length_replicate, List.length_set]; omega)) only [Sall,evalOp,init,binE,binI,unE,convE,okNil,builtE,gv,TD.isAgg,resV,↓reduceIte,Nat.reduceEqDiff,reduceCtorEq,Nat.reduceAdd,Nat.reduceMul,Nat.reduceLeDiff,quietOp,blindOp,Int.reduceEq,Int.reduceLT,Int.reduceLE,Nat.reduceLT,ti2,ti3,ti4,ti79,ti80,ti28,ti25,ti31,ti22,ti33,ti24,ti67,ti111,ti145,ti136,ti137,ti117,ti100, awpT_nil, awpT_one, awpT_run_nil, awpT_run_cons, h5, h6, h7, r5, r6, r7, o1, o2, o3, d56, d57, d67, d65, d75, d76, t2]
      refine ⟨.inr (.inl (by kernel_rfl)), ?_⟩
      try simp (disch := first | omega | (simp only [ints_length, List.length_replicate, List.length_set]; done) | (simp only [ints_length, List.length_replicate, List.length_set]; omega)) only [Sall,evalOp,init,binE,binI,unE,convE,okNil,builtE,gv,TD.isAgg,resV,↓reduceIte,Nat.reduceEqDiff,reduceCtorEq,Nat.reduceAdd,Nat.reduceMul,Nat.reduceLeDiff,quietOp,blindOp,Int.reduceEq,Int.reduceLT,Int.reduceLE,Nat.reduceLT,ti2,ti3,ti4,ti79,ti80,ti28,ti25,ti31,ti22,ti33,ti24,ti67,ti111,ti145,ti136,ti137,ti117,ti100, awpT_nil, awpT_one, awpT_run_nil, awpT_run_cons, h5, h6, h7, r5, r6, r7, o1, o2, o3, d56, d57, d67, d65, d75, d76, t2]
      refine ⟨.inr (.inl (by kernel_rfl)), i5, i6, i7, t 11, t 14, t 17, ?_⟩
      have q6 : (H2.setCells i5 [t 11]).row i6 = some ⟨28, true, [.slice none 0 0]⟩ := by rw [AH.setCells_row, if_neg d65]; exact r6
      have q7 : ((H2.setCells i5 [t 11]).setCells i6 [t 14]).row i7 = some ⟨28, true, [.slice none 0 0]⟩ := by rw [AH.setCells_row, if_neg d76, AH.setCells_row, if_neg d75]; exact r7
      try simp (disch := first | omega | (simp only [ints_length, List.length_replicate, List.length_set]; done) | (simp only [ints_length, List.length_replicate, List.length_set]; omega)) only [Sall,evalOp,init,binE,binI,unE,convE,okNil,builtE,gv,TD.isAgg,resV,↓reduceIte,Nat.reduceEqDiff,reduceCtorEq,Nat.reduceAdd,Nat.reduceMul,Nat.reduceLeDiff,quietOp,blindOp,Int.reduceEq,Int.reduceLT,Int.reduceLE,Nat.reduceLT,ti2,ti3,ti4,ti79,ti80,ti28,ti25,ti31,ti22,ti33,ti24,ti67,ti111,ti145,ti136,ti137,ti117,ti100, h5, h6, h7, t2, r5, r6, r7, d56, d57, d67, d65, d75, d76]
      exact ⟨((hup.set a5 _).set a6 _).set a7 _, ((hsc.set _ _).set _ _).set _ _, b5, b6, b7, ((RkS.set f1 r5 _).set q6 _).set q7 _, ((RkS.set f2 r5 _).set q6 _).set q7 _, ((RkS.set f3 r5 _).set q6 _).set q7 _⟩
    · try simp (disch := first | omega | (simp only [ints_length, List.length_replicate, List.length_set]; done) | (simp only [ints_length, List.length_replicate, List.length_set]; omega)) only [Sall,evalOp,init,binE,binI,unE,convE,okNil,builtE,gv,TD.isAgg,resV,↓reduceIte,Nat.reduceEqDiff,reduceCtorEq,Nat.reduceAdd,Nat.reduceMul,Nat.reduceLeDiff,quietOp,blindOp,Int.reduceEq,Int.reduceLT,Int.reduceLE,Nat.reduceLT,ti2,ti3,ti4,ti79,ti80,ti28,ti25,ti31,ti22,ti33,ti24,ti67,ti111,ti145,ti136,ti137,ti117,ti100, awpT_nil, awpT_one, awpT_run_nil, awpT_run_cons, e1]
      exact ⟨by simp, by simp, rfl, rfl, rfl, rfl, rfl, rfl, rfl, Up.refl _ _, sc1, fun k => absurd (by simp) k, fun k => absurd (by simp) k, fun k => absurd (by simp) k, fun k => absurd (by simp) k, fun k => absurd (by simp) k, fun k => absurd (by simp) k, fun k => absurd (by simp) k, fun k => absurd (by simp) k, fun k => absurd (by simp) k⟩
  · rintro t H2 ⟨i5, i6, i7, v1, v2, v3, h5, h6, h7, h2, u2, sc2, b5, b6, b7, r5, r6, r7, f1, f2, f3⟩
    have n2 := u2.next
    have e2 : H2.row H.next = some ⟨33, true, [.int .i64 n, v]⟩ := by rw [u2.row _ (by omega), e1]
    try simp (disch := first | omega | (simp only [ints_length, List.length_replicate, List.length_set]; done) | (simp only [ints_length, List.length_replicate, List.length_set]; omega)) only [Sall,evalOp,init,binE,binI,unE,convE,okNil,builtE,gv,TD.isAgg,resV,↓reduceIte,Nat.reduceEqDiff,reduceCtorEq,Nat.reduceAdd,Nat.reduceMul,Nat.reduceLeDiff,quietOp,blindOp,Int.reduceEq,Int.reduceLT,Int.reduceLE,Nat.reduceLT,ti2,ti3,ti4,ti79,ti80,ti28,ti25,ti31,ti22,ti33,ti24,ti67,ti111,ti145,ti136,ti137,ti117,ti100, h2, e2, w64]
    refine (numbersFrom_c 0 ((n : Int) - 1) n (by omega) (by omega) (by omega) H2).sc.mono ?_
    rintro nv H3 ⟨⟨up3, hf3⟩, sc3⟩
    have n3 := up3.next
    obtain ⟨di, q1, q2, rfl, q3⟩ := hf3.get (by omega)
    refine Holds.mp ?_
    try simp (disch := first | omega | (simp only [ints_length, List.length_replicate, List.length_set]; done) | (simp only [ints_length, List.length_replicate, List.length_set]; omega)) only [Sall,evalOp,init,binE,binI,unE,convE,okNil,builtE,gv,TD.isAgg,resV,↓reduceIte,Nat.reduceEqDiff,reduceCtorEq,Nat.reduceAdd,Nat.reduceMul,Nat.reduceLeDiff,quietOp,blindOp,Int.reduceEq,Int.reduceLT,Int.reduceLE,Nat.reduceLT,ti2,ti3,ti4,ti79,ti80,ti28,ti25,ti31,ti22,ti33,ti24,ti67,ti111,ti145,ti136,ti137,ti117,ti100, h5, h6, h7, List.mem_cons, List.not_mem_nil, or_false, forall_eq_or_imp, forall_eq, Array.size_empty]
    refine (sortStable_c n (by omega) 157 [.pointer (some ⟨i5, 0, none⟩), .pointer (some ⟨i6, 0, none⟩), .pointer (some ⟨i7, 0, none⟩)] (cmpR ps ss ts) di n H3 q2 q3 (fun a b => cmpR_range ps ss ts a b) ?_).mono ?_
    · intro a b H4 ha hb' hS
      obtain ⟨s1, s2, s3⟩ := hS
      have g5 : H4.row i5 = some ⟨28, true, [v1]⟩ := by rw [s2 _ (by omega) (by omega), up3.row _ b5]; exact r5
      have g6 : H4.row i6 = some ⟨28, true, [v2]⟩ := by rw [s2 _ (by omega) (by omega), up3.row _ b6]; exact r6
      have g7 : H4.row i7 = some ⟨28, true, [v3]⟩ := by rw [s2 _ (by omega) (by omega), up3.row _ b7]; exact r7
      have same : ∀ i, H1.next ≤ i → i < H2.next → H4.row i = H2.row i := fun i _ hi => by rw [s2 _ (by omega) (by omega), up3.row _ hi]
      have w1 : Rd 1 H4 v1 ps.length ps := by rw [hpl]; exact (Fr.same f1 same).rd
      have w2 : Rd 1 H4 v2 ss.length ss := by rw [hsl]; exact (Fr.same f2 same).rd
      have w3 : Rd 1 H4 v3 ts.length ts := by rw [htl]; exact (Fr.same f3 same).rd
      exact rkClosure_c ps ss ts i5 i6 i7 v1 v2 v3 a b H4 g5 g6 g7 w1 w2 w3 (by omega) (by omega)
    · rintro r H4 ⟨⟨s1, s2, s3⟩, hd⟩
      refine Holds.mp ?_
      try simp (disch := first | omega | (simp only [ints_length, List.length_replicate, List.length_set]; done) | (simp only [ints_length, List.length_replicate, List.length_set]; omega)) only [Sall,evalOp,init,binE,binI,unE,convE,okNil,builtE,gv,TD.isAgg,resV,↓reduceIte,Nat.reduceEqDiff,reduceCtorEq,Nat.reduceAdd,Nat.reduceMul,Nat.reduceLeDiff,quietOp,blindOp,Int.reduceEq,Int.reduceLT,Int.reduceLE,Nat.reduceLT,ti2,ti3,ti4,ti79,ti80,ti28,ti25,ti31,ti22,ti33,ti24,ti67,ti111,ti145,ti136,ti137,ti117,ti100, true_and]
      have eg : (fun a b => decide (cmpR ps ss ts a b < 0)) = ahd ps ss ts := by funext a b; exact cmpR_ahd ps ss ts a b
      rw [eg] at hd
      exact ⟨⟨by omega, fun i hi => by rw [s2 i (by omega) (by omega), up3.row i (by omega), u2.row i (by omega), up.row i hi]⟩, by rw [rankL_length]; omega, .inr ⟨di, by omega, by omega, rfl, hd⟩⟩
end Go.Proofs.Ytbmpkihggipciaa.A
