/- Contracts: the ranking of the teams, on both sides. And what follows. -/
import Derived.Test.YtgkmdfjjlghecaaM4
section
set_option linter.unusedSimpArgs false
set_option linter.unusedVariables false
set_option maxRecDepth 100000
set_option maxHeartbeats 2000000
namespace Go.Proofs.Ytgkmdfjjlghecaa.A
open Go Go.Abs Go.RowKit

def RkS (A : AH) (n : Nat) (l : List Int) (v : Value) (H : AH) : Prop := Fr 1 2 A.next H.next H v n l
def RkP (A : AH) (v : Value) (H : AH) : Prop := ∃ i, v = .pointer (some ⟨i, 0, none⟩) ∧ A.next ≤ i ∧ i < H.next ∧ H.row i = some ⟨38, true, [.slice none 0 0]⟩
theorem RkS.up {A : AH} {n : Nat} {l : List Int} {v : Value} {H H' : AH} (h : RkS A n l v H) (u : Up H.next H H') : RkS A n l v H' :=
  (h.same fun i _ hi => u.row i hi).wide (Nat.le_refl _) u.next
theorem RkP.up {A : AH} {v : Value} {H H' : AH} (h : RkP A v H) (u : Up H.next H H') : RkP A v H' := by
  obtain ⟨i, h1, h2, h3, h4⟩ := h
  exact ⟨i, h1, h2, by have := u.next; omega, by rw [u.row i h3]; exact h4⟩
theorem RkP.ne {A : AH} {v : Value} {H : AH} (h : RkP A v H) : v ≠ .pointer (some ⟨H.next, 0, none⟩) := by
  rintro rfl
  obtain ⟨i, h1, h2, h3, h4⟩ := h
  have : H.next = i := by injection h1 with e; injection e with e; injection e
  omega
theorem RkS.set {A : AH} {n : Nat} {l : List Int} {w : Value} {H : AH} {i : Nat} {cs0 : List Value} (h : RkS A n l w H) (hr : H.row i = some ⟨38, true, cs0⟩) (cs : List Value) : RkS A n l w (H.setCells i cs) := by
  refine ⟨h.1, ?_⟩
  rcases h.2 with h2 | ⟨f, h1, h2, hv, hf⟩
  · exact .inl h2
  · refine .inr ⟨f, h1, h2, hv, ?_⟩
    rw [AH.setCells_row, if_neg]
    · exact hf
    · rintro rfl
      rw [hr] at hf
      injection hf with hf
      injection hf with e
      exact absurd e (by decide)
/-- While some of the calls and some of the cells are still to come. -/
structure RkJ (A : AH) (n : Nat) (ps ss ts : List Int) (sv xv pv : Value) (cs fs : List Nat) (t : T) (H : AH) : Prop where
  hcs : cs = [2, 5, 8] ∨ cs = [5, 8] ∨ cs = [8] ∨ cs = []
  hfs : ∀ a ∈ fs, a = 9 ∨ a = 10 ∨ a = 11
  t9 : t 9 = sv
  t10 : t 10 = xv
  t12 : t 12 = sv
  t13 : t 13 = xv
  t15 : t 15 = sv
  t16 : t 16 = xv
  t2 : t 2 = pv
  up : Up A.next A H
  sc : Sc H
  s1 : 2 ∉ cs → RkS A n ps (t 11) H
  s2 : 5 ∉ cs → RkS A n ss (t 14) H
  s3 : 8 ∉ cs → RkS A n ts (t 17) H
  p1 : 9 ∉ fs → RkP A (t 5) H
  p2 : 10 ∉ fs → RkP A (t 6) H
  p3 : 11 ∉ fs → RkP A (t 7) H
  d1 : 9 ∉ fs → 10 ∉ fs → t 5 ≠ t 6
  d2 : 9 ∉ fs → 11 ∉ fs → t 5 ≠ t 7
  d3 : 10 ∉ fs → 11 ∉ fs → t 6 ≠ t 7
theorem not_erase {a x : Nat} {fs : List Nat} (h : x ∉ fs.erase a) (hne : x ≠ a) : x ∉ fs := fun hm => h ((List.mem_erase_of_ne hne).2 hm)

theorem RkJ.call1 {A : AH} {n : Nat} {ps ss ts : List Int} {sv xv pv w : Value} {fs : List Nat} {t : T} {H H' : AH} (h : RkJ A n ps ss ts sv xv pv [2, 5, 8] fs t H) (u : Up H.next H H') (sc : Sc H') (hf : Fr 1 2 H.next H'.next H' w n ps) : RkJ A n ps ss ts sv xv pv [5, 8] fs (updO t (some 11) w) H' where
  hcs := by simp
  hfs := h.hfs
  t9 := h.t9
  t10 := h.t10
  t12 := h.t12
  t13 := h.t13
  t15 := h.t15
  t16 := h.t16
  t2 := h.t2
  up := h.up.trans u h.up.next
  sc := sc
  s1 := fun _ => hf.wide h.up.next (Nat.le_refl _)
  s2 := fun k => absurd (by simp) k
  s3 := fun k => absurd (by simp) k
  p1 := fun k => (h.p1 k).up u
  p2 := fun k => (h.p2 k).up u
  p3 := fun k => (h.p3 k).up u
  d1 := h.d1
  d2 := h.d2
  d3 := h.d3
theorem RkJ.call2 {A : AH} {n : Nat} {ps ss ts : List Int} {sv xv pv w : Value} {fs : List Nat} {t : T} {H H' : AH} (h : RkJ A n ps ss ts sv xv pv [5, 8] fs t H) (u : Up H.next H H') (sc : Sc H') (hf : Fr 1 2 H.next H'.next H' w n ss) : RkJ A n ps ss ts sv xv pv [8] fs (updO t (some 14) w) H' where
  hcs := by simp
  hfs := h.hfs
  t9 := h.t9
  t10 := h.t10
  t12 := h.t12
  t13 := h.t13
  t15 := h.t15
  t16 := h.t16
  t2 := h.t2
  up := h.up.trans u h.up.next
  sc := sc
  s1 := fun _ => (h.s1 (by simp)).up u
  s2 := fun _ => hf.wide h.up.next (Nat.le_refl _)
  s3 := fun k => absurd (by simp) k
  p1 := fun k => (h.p1 k).up u
  p2 := fun k => (h.p2 k).up u
  p3 := fun k => (h.p3 k).up u
  d1 := h.d1
  d2 := h.d2
  d3 := h.d3
theorem RkJ.call3 {A : AH} {n : Nat} {ps ss ts : List Int} {sv xv pv w : Value} {fs : List Nat} {t : T} {H H' : AH} (h : RkJ A n ps ss ts sv xv pv [8] fs t H) (u : Up H.next H H') (sc : Sc H') (hf : Fr 1 2 H.next H'.next H' w n ts) : RkJ A n ps ss ts sv xv pv [] fs (updO t (some 17) w) H' where
  hcs := by simp
  hfs := h.hfs
  t9 := h.t9
  t10 := h.t10
  t12 := h.t12
  t13 := h.t13
  t15 := h.t15
  t16 := h.t16
  t2 := h.t2
  up := h.up.trans u h.up.next
  sc := sc
  s1 := fun _ => (h.s1 (by simp)).up u
  s2 := fun _ => (h.s2 (by simp)).up u
  s3 := fun _ => hf.wide h.up.next (Nat.le_refl _)
  p1 := fun k => (h.p1 k).up u
  p2 := fun k => (h.p2 k).up u
  p3 := fun k => (h.p3 k).up u
  d1 := h.d1
  d2 := h.d2
  d3 := h.d3
theorem RkJ.free1 {A : AH} {n : Nat} {ps ss ts : List Int} {sv xv pv : Value} {cs fs : List Nat} {t : T} {H : AH} (h : RkJ A n ps ss ts sv xv pv cs fs t H) : RkJ A n ps ss ts sv xv pv cs (fs.erase 9) (upd t 5 (.pointer (some ⟨H.next, 0, none⟩))) (H.push ⟨38, true, [.slice none 0 0]⟩) where
  hcs := h.hcs
  hfs := fun a ha => h.hfs a (List.mem_of_mem_erase ha)
  t9 := h.t9
  t10 := h.t10
  t12 := h.t12
  t13 := h.t13
  t15 := h.t15
  t16 := h.t16
  t2 := h.t2
  up := h.up.push h.up.next _
  sc := h.sc.push _
  s1 := fun k => (h.s1 k).up ((Up.refl _ H).push (Nat.le_refl _) _)
  s2 := fun k => (h.s2 k).up ((Up.refl _ H).push (Nat.le_refl _) _)
  s3 := fun k => (h.s3 k).up ((Up.refl _ H).push (Nat.le_refl _) _)
  p1 := fun _ => ⟨H.next, rfl, h.up.next, Nat.lt_succ_self _, by rw [AH.push_row, if_pos rfl]⟩
  p2 := fun k => (h.p2 (not_erase k (by decide))).up ((Up.refl _ H).push (Nat.le_refl _) _)
  p3 := fun k => (h.p3 (not_erase k (by decide))).up ((Up.refl _ H).push (Nat.le_refl _) _)
  d1 := fun _ k2 => (h.p2 (not_erase k2 (by decide))).ne.symm
  d2 := fun _ k2 => (h.p3 (not_erase k2 (by decide))).ne.symm
  d3 := fun k1 k2 => h.d3 (not_erase k1 (by decide)) (not_erase k2 (by decide))
theorem RkJ.free2 {A : AH} {n : Nat} {ps ss ts : List Int} {sv xv pv : Value} {cs fs : List Nat} {t : T} {H : AH} (h : RkJ A n ps ss ts sv xv pv cs fs t H) : RkJ A n ps ss ts sv xv pv cs (fs.erase 10) (upd t 6 (.pointer (some ⟨H.next, 0, none⟩))) (H.push ⟨38, true, [.slice none 0 0]⟩) where
  hcs := h.hcs
  hfs := fun a ha => h.hfs a (List.mem_of_mem_erase ha)
  t9 := h.t9
  t10 := h.t10
  t12 := h.t12
  t13 := h.t13
  t15 := h.t15
  t16 := h.t16
  t2 := h.t2
  up := h.up.push h.up.next _
  sc := h.sc.push _
  s1 := fun k => (h.s1 k).up ((Up.refl _ H).push (Nat.le_refl _) _)
  s2 := fun k => (h.s2 k).up ((Up.refl _ H).push (Nat.le_refl _) _)
  s3 := fun k => (h.s3 k).up ((Up.refl _ H).push (Nat.le_refl _) _)
  p1 := fun k => (h.p1 (not_erase k (by decide))).up ((Up.refl _ H).push (Nat.le_refl _) _)
  p2 := fun _ => ⟨H.next, rfl, h.up.next, Nat.lt_succ_self _, by rw [AH.push_row, if_pos rfl]⟩
  p3 := fun k => (h.p3 (not_erase k (by decide))).up ((Up.refl _ H).push (Nat.le_refl _) _)
  d1 := fun k1 _ => (h.p1 (not_erase k1 (by decide))).ne
  d2 := fun k1 k2 => h.d2 (not_erase k1 (by decide)) (not_erase k2 (by decide))
  d3 := fun _ k2 => (h.p3 (not_erase k2 (by decide))).ne.symm
theorem RkJ.free3 {A : AH} {n : Nat} {ps ss ts : List Int} {sv xv pv : Value} {cs fs : List Nat} {t : T} {H : AH} (h : RkJ A n ps ss ts sv xv pv cs fs t H) : RkJ A n ps ss ts sv xv pv cs (fs.erase 11) (upd t 7 (.pointer (some ⟨H.next, 0, none⟩))) (H.push ⟨38, true, [.slice none 0 0]⟩) where
  hcs := h.hcs
  hfs := fun a ha => h.hfs a (List.mem_of_mem_erase ha)
  t9 := h.t9
  t10 := h.t10
  t12 := h.t12
  t13 := h.t13
  t15 := h.t15
  t16 := h.t16
  t2 := h.t2
  up := h.up.push h.up.next _
  sc := h.sc.push _
  s1 := fun k => (h.s1 k).up ((Up.refl _ H).push (Nat.le_refl _) _)
  s2 := fun k => (h.s2 k).up ((Up.refl _ H).push (Nat.le_refl _) _)
  s3 := fun k => (h.s3 k).up ((Up.refl _ H).push (Nat.le_refl _) _)
  p1 := fun k => (h.p1 (not_erase k (by decide))).up ((Up.refl _ H).push (Nat.le_refl _) _)
  p2 := fun k => (h.p2 (not_erase k (by decide))).up ((Up.refl _ H).push (Nat.le_refl _) _)
  p3 := fun _ => ⟨H.next, rfl, h.up.next, Nat.lt_succ_self _, by rw [AH.push_row, if_pos rfl]⟩
  d1 := fun k1 k2 => h.d1 (not_erase k1 (by decide)) (not_erase k2 (by decide))
  d2 := fun k1 _ => (h.p1 (not_erase k1 (by decide))).ne
  d3 := fun k1 _ => (h.p2 (not_erase k1 (by decide))).ne

theorem ranking_c (n : Nat) (v : Value) (k : Nat) (l : List Int) (x : Value) (ll : List (List Int)) (ps ss ts : List Int) (H : AH) (hb : schedB n k l = true) (hres : resB n k l ll = true) (hl : ll.length ≤ 4294967296) (hv : Rd 14 H v k l) (hx : Rd2 1 H x ll)
    (hps : ps = sumsF n (fun _ o => o) (meets n l ll ll.length)) (hss : ss = sumsF n (sumF false ps) (meets n l ll ll.length)) (hts : ts = sumsF n (sumF true ps) (meets n l ll ll.length)) :
    ACalls Try.prog 98 [.agg #[.int .i64 n, v], x] H (fun u H' => Up H.next H H' ∧ Fr 1 2 H.next H'.next H' u n (rankL (ahd ps ss ts) n)) := by
  refine ACalls.wf (by kernel_rfl) fun hs => acalls_of_awp [.tmp 4] Try.func98 (by kernel_rfl) rfl rfl (Nat.le_of_ble_eq_true rfl) (by kernel_rfl) ?_
  obtain ⟨hn, _, _⟩ := schedB_at hb
  have hone := hv.one
  have hxone := hx.one
  have hpl : ps.length = n := by rw [hps, sumsF_length]
  have hsl : ss.length = n := by rw [hss, sumsF_length]
  have htl : ts.length = n := by rw [hts, sumsF_length]
  have up : Up H.next H (H.push ⟨32, true, [.int .i64 n, v]⟩) := (Up.refl _ H).push (Nat.le_refl _) _
  have e1 : (H.push ⟨32, true, [.int .i64 n, v]⟩).row H.next = some ⟨32, true, [.int .i64 n, v]⟩ := by rw [AH.push_row, if_pos rfl]
  have n1 : (H.push ⟨32, true, [.int .i64 n, v]⟩).next = H.next + 1 := rfl
  have sc1 : Sc (H.push ⟨32, true, [.int .i64 n, v]⟩) := Sc.push hs _
  try simp (disch := first | omega | (simp only [ints_length, List.length_replicate, List.length_set]; done) | (simp only [ints_length, List.length_replicate, List.length_set]; omega)) only [Sall,evalOp,init,binE,binI,unE,convE,okNil,builtE,gv,TD.isAgg,resV,↓reduceIte,Nat.reduceEqDiff,reduceCtorEq,Nat.reduceAdd,Nat.reduceMul,Nat.reduceLeDiff,quietOp,blindOp,Int.reduceEq,Int.reduceLT,Int.reduceLE,Nat.reduceLT,ti2,ti3,ti4,ti45,ti46,ti38,ti25,ti30,ti22,ti32,ti24,ti95,ti172,ti169,ti165,ti166,ti65,ti143,ti87, hone]
  revert up e1 n1 sc1
  generalize H.push ⟨32, true, [.int .i64 n, v]⟩ = H1
  intro up e1 n1 sc1
  have hvU : ∀ H' : AH, Up H1.next H1 H' → Rd 14 H' v k l := fun H' u => hv.same fun i r hr => by
    have hi := hs _ _ hr
    rw [u.row i (by omega), up.row i hi]; exact hr
  have hxU : ∀ H' : AH, Up H1.next H1 H' → Rd2 1 H' x ll := fun H' u => hx.same fun i r hr => by
    have hi := hs _ _ hr
    rw [u.row i (by omega), up.row i hi]; exact hr
  refine awp_cutQ (fun t H2 => ∃ (i5 i6 i7 : Nat) (v1 v2 v3 : Value), t 5 = .pointer (some ⟨i5, 0, none⟩) ∧ t 6 = .pointer (some ⟨i6, 0, none⟩) ∧ t 7 = .pointer (some ⟨i7, 0, none⟩) ∧ t 2 = .pointer (some ⟨H.next, 0, none⟩) ∧ Up H1.next H1 H2 ∧ Sc H2 ∧
    i5 < H2.next ∧ i6 < H2.next ∧ i7 < H2.next ∧ H2.row i5 = some ⟨38, true, [v1]⟩ ∧ H2.row i6 = some ⟨38, true, [v2]⟩ ∧ H2.row i7 = some ⟨38, true, [v3]⟩ ∧ RkS H1 n ps v1 H2 ∧ RkS H1 n ss v2 H2 ∧ RkS H1 n ts v3 H2) ?_ ?_
  · refine draw_pool [0, 1, 3, 4, 6, 7] [2, 5, 8] [9, 10, 11] (OT.run [12, 13, 14] .nil) (by kernel_rfl) (by kernel_rfl) (Nat.le_of_ble_eq_true rfl) (RkJ H1 n ps ss ts (.agg #[.int .i64 n, v]) x (.pointer (some ⟨H.next, 0, none⟩))) ⟨?_, ?_, ?_⟩ ?_
    · intro c cs fs t H2 hJ
      rcases hJ.hcs with e | e | e | e
      · injection e with e1 e2
        subst e1; subst e2
        have hc := points_c n v k l x ll H2 hb hres hl (hvU H2 hJ.up) (hxU H2 hJ.up)
        rw [← hps] at hc
        try simp (disch := first | omega | (simp only [ints_length, List.length_replicate, List.length_set]; done) | (simp only [ints_length, List.length_replicate, List.length_set]; omega)) only [Sall,evalOp,init,binE,binI,unE,convE,okNil,builtE,gv,TD.isAgg,resV,↓reduceIte,Nat.reduceEqDiff,reduceCtorEq,Nat.reduceAdd,Nat.reduceMul,Nat.reduceLeDiff,quietOp,blindOp,Int.reduceEq,Int.reduceLT,Int.reduceLE,Nat.reduceLT,ti2,ti3,ti4,ti45,ti46,ti38,ti25,ti30,ti22,ti32,ti24,ti95,ti172,ti169,ti165,ti166,ti65,ti143,ti87, awpT_nil, awpT_one, awpT_run_nil, awpT_run_cons, hJ.t9, hJ.t10]
        refine hc.sc.mono ?_
        rintro w H3 ⟨⟨up3, hf3⟩, sc3⟩
        exact ⟨.inr (.inr (up3.le hJ.sc)), hJ.call1 up3 sc3 hf3⟩
      · injection e with e1 e2
        subst e1; subst e2
        have hc := second_c n v k l x ll H2 hb hres hl (hvU H2 hJ.up) (hxU H2 hJ.up)
        rw [second_sum, ← hps, ← hss] at hc
        try simp (disch := first | omega | (simp only [ints_length, List.length_replicate, List.length_set]; done) | (simp only [ints_length, List.length_replicate, List.length_set]; omega)) only [Sall,evalOp,init,binE,binI,unE,convE,okNil,builtE,gv,TD.isAgg,resV,↓reduceIte,Nat.reduceEqDiff,reduceCtorEq,Nat.reduceAdd,Nat.reduceMul,Nat.reduceLeDiff,quietOp,blindOp,Int.reduceEq,Int.reduceLT,Int.reduceLE,Nat.reduceLT,ti2,ti3,ti4,ti45,ti46,ti38,ti25,ti30,ti22,ti32,ti24,ti95,ti172,ti169,ti165,ti166,ti65,ti143,ti87, awpT_nil, awpT_one, awpT_run_nil, awpT_run_cons, hJ.t12, hJ.t13]
        refine hc.sc.mono ?_
        rintro w H3 ⟨⟨up3, hf3⟩, sc3⟩
        exact ⟨.inr (.inr (up3.le hJ.sc)), hJ.call2 up3 sc3 hf3⟩
      · injection e with e1 e2
        subst e1; subst e2
        have hc := third_c n v k l x ll H2 hb hres hl (hvU H2 hJ.up) (hxU H2 hJ.up)
        rw [third_sum, ← hps, ← hts] at hc
        try simp (disch := first | omega | (simp only [ints_length, List.length_replicate, List.length_set]; done) | (simp only [ints_length, List.length_replicate, List.length_set]; omega)) only [Sall,evalOp,init,binE,binI,unE,convE,okNil,builtE,gv,TD.isAgg,resV,↓reduceIte,Nat.reduceEqDiff,reduceCtorEq,Nat.reduceAdd,Nat.reduceMul,Nat.reduceLeDiff,quietOp,blindOp,Int.reduceEq,Int.reduceLT,Int.reduceLE,Nat.reduceLT,ti2,ti3,ti4,ti45,ti46,ti38,ti25,ti30,ti22,ti32,ti24,ti95,ti172,ti169,ti165,ti166,ti65,ti143,ti87, awpT_nil, awpT_one, awpT_run_nil, awpT_run_cons, hJ.t15, hJ.t16]
        refine hc.sc.mono ?_
        rintro w H3 ⟨⟨up3, hf3⟩, sc3⟩
        exact ⟨.inr (.inr (up3.le hJ.sc)), hJ.call3 up3 sc3 hf3⟩
      · cases e
    · intro a cs fs t H2 ha hJ
      rcases hJ.hfs a ha with rfl | rfl | rfl
      · try simp (disch := first | omega | (simp only [ints_length, List.length_replicate, List.length_set]; done) | (simp only [ints_length, List.length_replicate, List.length_set]; omega)) only [Sall,evalOp,init,binE,binI,unE,convE,okNil,builtE,gv,TD.isAgg,resV,↓reduceIte,Nat.reduceEqDiff,reduceCtorEq,Nat.reduceAdd,Nat.reduceMul,Nat.reduceLeDiff,quietOp,blindOp,Int.reduceEq,Int.reduceLT,Int.reduceLE,Nat.reduceLT,ti2,ti3,ti4,ti45,ti46,ti38,ti25,ti30,ti22,ti32,ti24,ti95,ti172,ti169,ti165,ti166,ti65,ti143,ti87, awpT_nil, awpT_one, awpT_run_nil, awpT_run_cons]
        exact ⟨.inr (.inr (hJ.sc.le _)), hJ.free1⟩
      · try simp (disch := first | omega | (simp only [ints_length, List.length_replicate, List.length_set]; done) | (simp only [ints_length, List.length_replicate, List.length_set]; omega)) only [Sall,evalOp,init,binE,binI,unE,convE,okNil,builtE,gv,TD.isAgg,resV,↓reduceIte,Nat.reduceEqDiff,reduceCtorEq,Nat.reduceAdd,Nat.reduceMul,Nat.reduceLeDiff,quietOp,blindOp,Int.reduceEq,Int.reduceLT,Int.reduceLE,Nat.reduceLT,ti2,ti3,ti4,ti45,ti46,ti38,ti25,ti30,ti22,ti32,ti24,ti95,ti172,ti169,ti165,ti166,ti65,ti143,ti87, awpT_nil, awpT_one, awpT_run_nil, awpT_run_cons]
        exact ⟨.inr (.inr (hJ.sc.le _)), hJ.free2⟩
      · try simp (disch := first | omega | (simp only [ints_length, List.length_replicate, List.length_set]; done) | (simp only [ints_length, List.length_replicate, List.length_set]; omega)) only [Sall,evalOp,init,binE,binI,unE,convE,okNil,builtE,gv,TD.isAgg,resV,↓reduceIte,Nat.reduceEqDiff,reduceCtorEq,Nat.reduceAdd,Nat.reduceMul,Nat.reduceLeDiff,quietOp,blindOp,Int.reduceEq,Int.reduceLT,Int.reduceLE,Nat.reduceLT,ti2,ti3,ti4,ti45,ti46,ti38,ti25,ti30,ti22,ti32,ti24,ti95,ti172,ti169,ti165,ti166,ti65,ti143,ti87, awpT_nil, awpT_one, awpT_run_nil, awpT_run_cons]
        exact ⟨.inr (.inr (hJ.sc.le _)), hJ.free3⟩
    · intro t H2 hJ
      obtain ⟨i5, h5, a5, b5, r5⟩ := hJ.p1 (by simp)
      obtain ⟨i6, h6, a6, b6, r6⟩ := hJ.p2 (by simp)
      obtain ⟨i7, h7, a7, b7, r7⟩ := hJ.p3 (by simp)
      have d56 : ¬ i5 = i6 := fun e => hJ.d1 (by simp) (by simp) (by rw [h5, h6, e])
      have d57 : ¬ i5 = i7 := fun e => hJ.d2 (by simp) (by simp) (by rw [h5, h7, e])
      have d67 : ¬ i6 = i7 := fun e => hJ.d3 (by simp) (by simp) (by rw [h6, h7, e])
      have d65 : ¬ i6 = i5 := fun e => d56 e.symm
      have d75 : ¬ i7 = i5 := fun e => d57 e.symm
      have d76 : ¬ i7 = i6 := fun e => d67 e.symm
      have f1 := hJ.s1 (by simp)
      have f2 := hJ.s2 (by simp)
      have f3 := hJ.s3 (by simp)
      have o1 := Rd.one (Fr.rd f1)
      have o2 := Rd.one (Fr.rd f2)
      have o3 := Rd.one (Fr.rd f3)
      have t2 := hJ.t2
      have hup := hJ.up
      have hsc := hJ.sc
      try simp (disch := first | omega | (simp only [ints_length, List.length_replicate, List.length_set]; done) | (simp only [ints_length, List.length_replicate, List.length_set]; omega)) only [Sall,evalOp,init,binE,binI,unE,convE,okNil,builtE,gv,TD.isAgg,resV,↓reduceIte,Nat.reduceEqDiff,reduceCtorEq,Nat.reduceAdd,Nat.reduceMul,Nat.reduceLeDiff,quietOp,blindOp,Int.reduceEq,Int.reduceLT,Int.reduceLE,Nat.reduceLT,ti2,ti3,ti4,ti45,ti46,ti38,ti25,ti30,ti22,ti32,ti24,ti95,ti172,ti169,ti165,ti166,ti65,ti143,ti87, awpT_nil, awpT_one, awpT_run_nil, awpT_run_cons, h5, h6, h7, r5, r6, r7, o1, o2, o3, d56, d57, d67, d65, d75, d76, t2]
      refine ⟨.inr (.inl (by kernel_rfl)), ?_⟩
      try simp (disch := first | omega | (simp only [ints_length, List.length_replicate, List.length_set]; done) | (simp only [ints_length, List.length_replicate, List.length_set]; omega)) only [Sall,evalOp,init,binE,binI,unE,convE,okNil,builtE,gv,TD.isAgg,resV,↓reduceIte,Nat.reduceEqDiff,reduceCtorEq,Nat.reduceAdd,Nat.reduceMul,Nat.reduceLeDiff,quietOp,blindOp,Int.reduceEq,Int.reduceLT,Int.reduceLE,Nat.reduceLT,ti2,ti3,ti4,ti45,ti46,ti38,ti25,ti30,ti22,ti32,ti24,ti95,ti172,ti169,ti165,ti166,ti65,ti143,ti87, awpT_nil, awpT_one, awpT_run_nil, awpT_run_cons, h5, h6, h7, r5, r6, r7, o1, o2, o3, d56, d57, d67, d65, d75, d76, t2]
      refine ⟨.inr (.inl (by kernel_rfl)), ?_⟩
      try simp (disch := first | omega | (simp only [ints_length, List.length_replicate, List.length_set]; done) | (simp only [ints_length, List.length_replicate, List.length_set]; omega)) only [Sall,evalOp,init,binE,binI,unE,convE,okNil,builtE,gv,TD.isAgg,resV,↓reduceIte,Nat.reduceEqDiff,reduceCtorEq,Nat.reduceAdd,Nat.reduceMul,Nat.reduceLeDiff,quietOp,blindOp,Int.reduceEq,Int.reduceLT,Int.reduceLE,Nat.reduceLT,ti2,ti3,ti4,ti45,ti46,ti38,ti25,ti30,ti22,ti32,ti24,ti95,ti172,ti169,ti165,ti166,ti65,ti143,ti87, awpT_nil, awpT_one, awpT_run_nil, awpT_run_cons, h5, h6, h7, r5, r6, r7, o1, o2, o3, d56, d57, d67, d65, d75, d76, t2]
      refine ⟨.inr (.inl (by kernel_rfl)), i5, i6, i7, t 11, t 14, t 17, ?_⟩
      have q6 : (H2.setCells i5 [t 11]).row i6 = some ⟨38, true, [.slice none 0 0]⟩ := by rw [AH.setCells_row, if_neg d65]; exact r6
      have q7 : ((H2.setCells i5 [t 11]).setCells i6 [t 14]).row i7 = some ⟨38, true, [.slice none 0 0]⟩ := by rw [AH.setCells_row, if_neg d76, AH.setCells_row, if_neg d75]; exact r7
      try simp (disch := first | omega | (simp only [ints_length, List.length_replicate, List.length_set]; done) | (simp only [ints_length, List.length_replicate, List.length_set]; omega)) only [Sall,evalOp,init,binE,binI,unE,convE,okNil,builtE,gv,TD.isAgg,resV,↓reduceIte,Nat.reduceEqDiff,reduceCtorEq,Nat.reduceAdd,Nat.reduceMul,Nat.reduceLeDiff,quietOp,blindOp,Int.reduceEq,Int.reduceLT,Int.reduceLE,Nat.reduceLT,ti2,ti3,ti4,ti45,ti46,ti38,ti25,ti30,ti22,ti32,ti24,ti95,ti172,ti169,ti165,ti166,ti65,ti143,ti87, h5, h6, h7, t2, r5, r6, r7, d56, d57, d67, d65, d75, d76]
      exact ⟨((hup.set a5 _).set a6 _).set a7 _, ((hsc.set _ _).set _ _).set _ _, b5, b6, b7, ((RkS.set f1 r5 _).set q6 _).set q7 _, ((RkS.set f2 r5 _).set q6 _).set q7 _, ((RkS.set f3 r5 _).set q6 _).set q7 _⟩
    · try simp (disch := first | omega | (simp only [ints_length, List.length_replicate, List.length_set]; done) | (simp only [ints_length, List.length_replicate, List.length_set]; omega)) only [Sall,evalOp,init,binE,binI,unE,convE,okNil,builtE,gv,TD.isAgg,resV,↓reduceIte,Nat.reduceEqDiff,reduceCtorEq,Nat.reduceAdd,Nat.reduceMul,Nat.reduceLeDiff,quietOp,blindOp,Int.reduceEq,Int.reduceLT,Int.reduceLE,Nat.reduceLT,ti2,ti3,ti4,ti45,ti46,ti38,ti25,ti30,ti22,ti32,ti24,ti95,ti172,ti169,ti165,ti166,ti65,ti143,ti87, awpT_nil, awpT_one, awpT_run_nil, awpT_run_cons, e1]
      exact ⟨by simp, by simp, rfl, rfl, rfl, rfl, rfl, rfl, rfl, Up.refl _ _, sc1, fun k => absurd (by simp) k, fun k => absurd (by simp) k, fun k => absurd (by simp) k, fun k => absurd (by simp) k, fun k => absurd (by simp) k, fun k => absurd (by simp) k, fun k => absurd (by simp) k, fun k => absurd (by simp) k, fun k => absurd (by simp) k⟩
  · rintro t H2 ⟨i5, i6, i7, v1, v2, v3, h5, h6, h7, h2, u2, sc2, b5, b6, b7, r5, r6, r7, f1, f2, f3⟩
    have n2 := u2.next
    have e2 : H2.row H.next = some ⟨32, true, [.int .i64 n, v]⟩ := by rw [u2.row _ (by omega), e1]
    try simp (disch := first | omega | (simp only [ints_length, List.length_replicate, List.length_set]; done) | (simp only [ints_length, List.length_replicate, List.length_set]; omega)) only [Sall,evalOp,init,binE,binI,unE,convE,okNil,builtE,gv,TD.isAgg,resV,↓reduceIte,Nat.reduceEqDiff,reduceCtorEq,Nat.reduceAdd,Nat.reduceMul,Nat.reduceLeDiff,quietOp,blindOp,Int.reduceEq,Int.reduceLT,Int.reduceLE,Nat.reduceLT,ti2,ti3,ti4,ti45,ti46,ti38,ti25,ti30,ti22,ti32,ti24,ti95,ti172,ti169,ti165,ti166,ti65,ti143,ti87, h2, e2, w64]
    refine (numbersFrom_c 0 ((n : Int) - 1) n (by omega) (by omega) (by omega) H2).sc.mono ?_
    rintro nv H3 ⟨⟨up3, hf3⟩, sc3⟩
    have n3 := up3.next
    obtain ⟨di, q1, q2, rfl, q3⟩ := hf3.get (by omega)
    refine Holds.mp ?_
    try simp (disch := first | omega | (simp only [ints_length, List.length_replicate, List.length_set]; done) | (simp only [ints_length, List.length_replicate, List.length_set]; omega)) only [Sall,evalOp,init,binE,binI,unE,convE,okNil,builtE,gv,TD.isAgg,resV,↓reduceIte,Nat.reduceEqDiff,reduceCtorEq,Nat.reduceAdd,Nat.reduceMul,Nat.reduceLeDiff,quietOp,blindOp,Int.reduceEq,Int.reduceLT,Int.reduceLE,Nat.reduceLT,ti2,ti3,ti4,ti45,ti46,ti38,ti25,ti30,ti22,ti32,ti24,ti95,ti172,ti169,ti165,ti166,ti65,ti143,ti87, h5, h6, h7, List.mem_cons, List.not_mem_nil, or_false, forall_eq_or_imp, forall_eq, Array.size_empty]
    refine (sortStable_c n (by omega) 166 [.pointer (some ⟨i5, 0, none⟩), .pointer (some ⟨i6, 0, none⟩), .pointer (some ⟨i7, 0, none⟩)] (cmpR ps ss ts) di n H3 q2 q3 (fun a b => cmpR_range ps ss ts a b) ?_).mono ?_
    · intro a b H4 ha hb' hS
      obtain ⟨s1, s2, s3⟩ := hS
      have g5 : H4.row i5 = some ⟨38, true, [v1]⟩ := by rw [s2 _ (by omega) (by omega), up3.row _ b5]; exact r5
      have g6 : H4.row i6 = some ⟨38, true, [v2]⟩ := by rw [s2 _ (by omega) (by omega), up3.row _ b6]; exact r6
      have g7 : H4.row i7 = some ⟨38, true, [v3]⟩ := by rw [s2 _ (by omega) (by omega), up3.row _ b7]; exact r7
      have same : ∀ i, H1.next ≤ i → i < H2.next → H4.row i = H2.row i := fun i _ hi => by rw [s2 _ (by omega) (by omega), up3.row _ hi]
      have w1 : Rd 1 H4 v1 ps.length ps := by rw [hpl]; exact (Fr.same f1 same).rd
      have w2 : Rd 1 H4 v2 ss.length ss := by rw [hsl]; exact (Fr.same f2 same).rd
      have w3 : Rd 1 H4 v3 ts.length ts := by rw [htl]; exact (Fr.same f3 same).rd
      exact rkClosure_c ps ss ts i5 i6 i7 v1 v2 v3 a b H4 g5 g6 g7 w1 w2 w3 (by omega) (by omega)
    · rintro r H4 ⟨⟨s1, s2, s3⟩, hd⟩
      refine Holds.mp ?_
      try simp (disch := first | omega | (simp only [ints_length, List.length_replicate, List.length_set]; done) | (simp only [ints_length, List.length_replicate, List.length_set]; omega)) only [Sall,evalOp,init,binE,binI,unE,convE,okNil,builtE,gv,TD.isAgg,resV,↓reduceIte,Nat.reduceEqDiff,reduceCtorEq,Nat.reduceAdd,Nat.reduceMul,Nat.reduceLeDiff,quietOp,blindOp,Int.reduceEq,Int.reduceLT,Int.reduceLE,Nat.reduceLT,ti2,ti3,ti4,ti45,ti46,ti38,ti25,ti30,ti22,ti32,ti24,ti95,ti172,ti169,ti165,ti166,ti65,ti143,ti87, true_and]
      have eg : (fun a b => decide (cmpR ps ss ts a b < 0)) = ahd ps ss ts := by funext a b; exact cmpR_ahd ps ss ts a b
      rw [eg] at hd
      exact ⟨⟨by omega, fun i hi => by rw [s2 i (by omega) (by omega), up3.row i (by omega), u2.row i (by omega), up.row i hi]⟩, by rw [rankL_length]; omega, .inr ⟨di, by omega, by omega, rfl, hd⟩⟩
end Go.Proofs.Ytgkmdfjjlghecaa.A
end

section
set_option linter.unusedSimpArgs false
set_option linter.unusedVariables false
set_option maxRecDepth 100000
set_option maxHeartbeats 2000000
namespace Go.Proofs.Ytgkmdfjjlghecaa.A
open Go Go.Abs Go.RowKit

theorem l10Ranking_c (n : Nat) (v : Value) (k : Nat) (l : List Int) (x : Value) (ll : List (List Int)) (ps ss ts : List Int) (H : AH) (hb : schedB n k l = true) (hres : resB n k l ll = true) (hl : ll.length ≤ 4294967296) (hv : Rd 14 H v k l) (hx : Rd2 1 H x ll)
    (hps : ps = sumsF n (fun _ o => o) (meets n l ll ll.length)) (hss : ss = sumsF n (sumF false ps) (meets n l ll ll.length)) (hts : ts = sumsF n (sumF true ps) (meets n l ll ll.length)) :
    ACalls Try.prog 96 [.agg #[.int .i64 n, v], x] H (fun u H' => Up H.next H H' ∧ Fr 1 2 H.next H'.next H' u n (rankL (ahd ps ss ts) n)) := by
  refine ACalls.wf (by kernel_rfl) fun hs => acalls_of_awp [.tmp 4] Try.func96 (by kernel_rfl) rfl rfl (Nat.le_of_ble_eq_true rfl) (by kernel_rfl) ?_
  obtain ⟨hn, _, _⟩ := schedB_at hb
  have hone := hv.one
  have hxone := hx.one
  have hpl : ps.length = n := by rw [hps, sumsF_length]
  have hsl : ss.length = n := by rw [hss, sumsF_length]
  have htl : ts.length = n := by rw [hts, sumsF_length]
  obtain ⟨G, eG⟩ : ∃ G, G = ahd ps ss ts := ⟨_, rfl⟩
  rw [← eG]
  have up : Up H.next H (H.push ⟨32, true, [.int .i64 n, v]⟩) := (Up.refl _ H).push (Nat.le_refl _) _
  have e1 : (H.push ⟨32, true, [.int .i64 n, v]⟩).row H.next = some ⟨32, true, [.int .i64 n, v]⟩ := by rw [AH.push_row, if_pos rfl]
  have n1 : (H.push ⟨32, true, [.int .i64 n, v]⟩).next = H.next + 1 := rfl
  have sc1 : Sc (H.push ⟨32, true, [.int .i64 n, v]⟩) := Sc.push hs _
  try simp (disch := first | omega | (simp only [ints_length, List.length_replicate, List.length_set]; done) | (simp only [ints_length, List.length_replicate, List.length_set]; omega)) only [Sall,evalOp,init,binE,binI,unE,convE,okNil,builtE,gv,TD.isAgg,resV,↓reduceIte,Nat.reduceEqDiff,reduceCtorEq,Nat.reduceAdd,Nat.reduceMul,Nat.reduceLeDiff,quietOp,blindOp,Int.reduceEq,Int.reduceLT,Int.reduceLE,Nat.reduceLT,ti2,ti3,ti4,ti45,ti46,ti38,ti25,ti30,ti22,ti32,ti24,ti95,ti172,ti169,ti165,ti166,ti65,ti143,ti87, hone]
  revert up e1 n1 sc1
  generalize H.push ⟨32, true, [.int .i64 n, v]⟩ = H1
  intro up e1 n1 sc1
  have hvU : ∀ H' : AH, Up H1.next H1 H' → Rd 14 H' v k l := fun H' u => hv.same fun i r hr => by
    have hi := hs _ _ hr
    rw [u.row i (by omega), up.row i hi]; exact hr
  have hxU : ∀ H' : AH, Up H1.next H1 H' → Rd2 1 H' x ll := fun H' u => hx.same fun i r hr => by
    have hi := hs _ _ hr
    rw [u.row i (by omega), up.row i hi]; exact hr
  refine draw_in [0, 1, 2, 3, 5, 6, 8, 9, 4, 7, 10, 11, 12, 13] (by kernel_rfl) (by kernel_rfl) (by kernel_rfl) ?_
  try simp (disch := first | omega | (simp only [ints_length, List.length_replicate, List.length_set]; done) | (simp only [ints_length, List.length_replicate, List.length_set]; omega)) only [Sall,evalOp,init,binE,binI,unE,convE,okNil,builtE,gv,TD.isAgg,resV,↓reduceIte,Nat.reduceEqDiff,reduceCtorEq,Nat.reduceAdd,Nat.reduceMul,Nat.reduceLeDiff,quietOp,blindOp,Int.reduceEq,Int.reduceLT,Int.reduceLE,Nat.reduceLT,ti2,ti3,ti4,ti45,ti46,ti38,ti25,ti30,ti22,ti32,ti24,ti95,ti172,ti169,ti165,ti166,ti65,ti143,ti87, e1, builtE, hx.len]
  have c1 := l10Points_c n v k l x ll ll.length H1 hb hres (Nat.le_refl _) hl (hvU H1 (Up.refl _ _)) (hxU H1 (Up.refl _ _))
  rw [← hps] at c1
  refine c1.sc.mono ?_
  rintro w1 H2 ⟨⟨up2, f1⟩, sc2⟩
  have n2 := up2.next
  refine ⟨.inr (.inr (up2.le sc1)), ?_⟩
  refine Holds.mp ?_
  try simp (disch := first | omega | (simp only [ints_length, List.length_replicate, List.length_set]; done) | (simp only [ints_length, List.length_replicate, List.length_set]; omega)) only [Sall,evalOp,init,binE,binI,unE,convE,okNil,builtE,gv,TD.isAgg,resV,↓reduceIte,Nat.reduceEqDiff,reduceCtorEq,Nat.reduceAdd,Nat.reduceMul,Nat.reduceLeDiff,quietOp,blindOp,Int.reduceEq,Int.reduceLT,Int.reduceLE,Nat.reduceLT,ti2,ti3,ti4,ti45,ti46,ti38,ti25,ti30,ti22,ti32,ti24,ti95,ti172,ti169,ti165,ti166,ti65,ti143,ti87, true_and]
  have c2 := l10Sums_c n v k l x ll false H2 hb hres hl (hvU H2 up2) (hxU H2 up2)
  rw [← hps, ← hss] at c2
  refine c2.sc.mono ?_
  rintro w2 H3 ⟨⟨up3, f2⟩, sc3⟩
  have n3 := up3.next
  refine ⟨.inr (.inr (up3.le sc2)), ?_⟩
  refine Holds.mp ?_
  try simp (disch := first | omega | (simp only [ints_length, List.length_replicate, List.length_set]; done) | (simp only [ints_length, List.length_replicate, List.length_set]; omega)) only [Sall,evalOp,init,binE,binI,unE,convE,okNil,builtE,gv,TD.isAgg,resV,↓reduceIte,Nat.reduceEqDiff,reduceCtorEq,Nat.reduceAdd,Nat.reduceMul,Nat.reduceLeDiff,quietOp,blindOp,Int.reduceEq,Int.reduceLT,Int.reduceLE,Nat.reduceLT,ti2,ti3,ti4,ti45,ti46,ti38,ti25,ti30,ti22,ti32,ti24,ti95,ti172,ti169,ti165,ti166,ti65,ti143,ti87, true_and]
  have c3 := l10Sums_c n v k l x ll true H3 hb hres hl (hvU H3 (up2.trans up3 (by omega))) (hxU H3 (up2.trans up3 (by omega)))
  rw [← hps, ← hts] at c3
  refine c3.sc.mono ?_
  rintro w3 H4 ⟨⟨up4, f3⟩, sc4⟩
  have n4 := up4.next
  refine ⟨.inr (.inr (up4.le sc3)), ?_⟩
  have u4 : Up H1.next H1 H4 := (up2.trans up3 (by omega)).trans up4 (by omega)
  have e4 : H4.row H.next = some ⟨32, true, [.int .i64 n, v]⟩ := by rw [u4.row _ (by omega), e1]
  have g1 : Fr 1 2 H1.next H2.next H4 w1 n ps := f1.same fun i _ hi => by rw [up4.row i (by omega), up3.row i (by omega)]
  have g2 : Fr 1 2 H2.next H3.next H4 w2 n ss := f2.same fun i _ hi => by rw [up4.row i (by omega)]
  refine Holds.mp ?_
  obtain ⟨y1, a1, b1, ew1, r1⟩ := g1.get (by omega)
  obtain ⟨y2, a2, b2, ew2, r2⟩ := g2.get (by omega)
  obtain ⟨y3, a3, b3, ew3, r3⟩ := f3.get (by omega)
  try simp (disch := first | omega | (simp only [ints_length, List.length_replicate, List.length_set]; done) | (simp only [ints_length, List.length_replicate, List.length_set]; omega)) only [Sall,evalOp,init,binE,binI,unE,convE,okNil,builtE,gv,TD.isAgg,resV,↓reduceIte,Nat.reduceEqDiff,reduceCtorEq,Nat.reduceAdd,Nat.reduceMul,Nat.reduceLeDiff,quietOp,blindOp,Int.reduceEq,Int.reduceLT,Int.reduceLE,Nat.reduceLT,ti2,ti3,ti4,ti45,ti46,ti38,ti25,ti30,ti22,ti32,ti24,ti95,ti172,ti169,ti165,ti166,ti65,ti143,ti87, zeros_zero]
  refine awp_loop (fun m t H' => ∃ (a : Nat) (u : Value) (lo : Nat), m = n - a ∧ a ≤ n ∧ t 9 = .int .i64 a ∧ t 8 = u ∧ t 5 = w1 ∧ t 6 = w2 ∧ t 7 = w3 ∧ t 2 = .pointer (some ⟨H.next, 0, none⟩) ∧ Up H4.next H4 H' ∧ H4.next ≤ lo ∧ Fr 1 2 lo H'.next H' u a (rankL G a)) n ?_ ?_
  · refine ⟨0, .slice (some ⟨H4.next, 0, some 1⟩) 0 0, H4.next, by omega, by omega, ?_⟩
    try simp (disch := first | omega | (simp only [ints_length, List.length_replicate, List.length_set]; done) | (simp only [ints_length, List.length_replicate, List.length_set]; omega)) only [Sall,evalOp,init,binE,binI,unE,convE,okNil,builtE,gv,TD.isAgg,resV,↓reduceIte,Nat.reduceEqDiff,reduceCtorEq,Nat.reduceAdd,Nat.reduceMul,Nat.reduceLeDiff,quietOp,blindOp,Int.reduceEq,Int.reduceLT,Int.reduceLE,Nat.reduceLT,ti2,ti3,ti4,ti45,ti46,ti38,ti25,ti30,ti22,ti32,ti24,ti95,ti172,ti169,ti165,ti166,ti65,ti143,ti87, Int.natCast_zero]
    exact ⟨(Up.refl _ H4).push (Nat.le_refl _) _, rfl, .inr ⟨H4.next, by omega, by omega, rfl, by rw [AH.push_row, if_pos rfl]; rfl⟩⟩
  · rintro m t H' ⟨a, u, lo, hm, han, h9, h8, h5, h6, h7, h2, hup, hlo, hfr⟩
    have hup1 := hup.next
    have e5 : H'.row H.next = some ⟨32, true, [.int .i64 n, v]⟩ := by rw [hup.row _ (by omega), e4]
    try simp (disch := first | omega | (simp only [ints_length, List.length_replicate, List.length_set]; done) | (simp only [ints_length, List.length_replicate, List.length_set]; omega)) only [Sall,evalOp,init,binE,binI,unE,convE,okNil,builtE,gv,TD.isAgg,resV,↓reduceIte,Nat.reduceEqDiff,reduceCtorEq,Nat.reduceAdd,Nat.reduceMul,Nat.reduceLeDiff,quietOp,blindOp,Int.reduceEq,Int.reduceLT,Int.reduceLE,Nat.reduceLT,ti2,ti3,ti4,ti45,ti46,ti38,ti25,ti30,ti22,ti32,ti24,ti95,ti172,ti169,ti165,ti166,ti65,ti143,ti87, h9, h2, e5]
    refine condC_dec (fun h => ?_) (fun h => ?_)
    · have hla := rankL_length G a
      have zz : zeros 1 [.int .i64 0] = [.int .i64 0] := rfl
      have hflen := hfr.rd.len
      try simp (disch := first | omega | (simp only [ints_length, List.length_replicate, List.length_set]; done) | (simp only [ints_length, List.length_replicate, List.length_set]; omega)) only [Sall,evalOp,init,binE,binI,unE,convE,okNil,builtE,gv,TD.isAgg,resV,↓reduceIte,Nat.reduceEqDiff,reduceCtorEq,Nat.reduceAdd,Nat.reduceMul,Nat.reduceLeDiff,quietOp,blindOp,Int.reduceEq,Int.reduceLT,Int.reduceLE,Nat.reduceLT,ti2,ti3,ti4,ti45,ti46,ti38,ti25,ti30,ti22,ti32,ti24,ti95,ti172,ti169,ti165,ti166,ti65,ti143,ti87, h9, h8, h2, builtE, hflen, zz, slCells]
      obtain ⟨H6, e6⟩ : ∃ H6, H6 = H'.push ⟨2, true, [.int .i64 a]⟩ := ⟨_, rfl⟩
      have n6 : H6.next = H'.next + 1 := by rw [e6]; rfl
      have s6 : ∀ i, i < H'.next → H6.row i = H'.row i := fun i hi => by rw [e6, AH.push_row, if_neg (by omega)]
      rw [← e6]
      clear e6
      refine appE_fr (k := 1) (lo := lo) (hi := H'.next) (l := rankL G a) (m := [(a : Int)]) (hfr.same fun i _ hi => s6 i (by omega)) rfl (by omega) rfl (by omega) (by decide) (by omega) (by omega) ?_
      intro v' H7 n7 s7 f7
      have hend := insAt_end (rankL G a) (a : Int)
      rw [hla] at hend
      rw [← hend] at f7
      obtain ⟨oi, p1, p2, rfl, p3⟩ := f7.get (by omega)
      have up7 : Up H4.next H4 H7 := ⟨by omega, fun i hi => by rw [s7 i (by omega) (by omega), s6 i (by omega), hup.row i hi]⟩
      try simp (disch := first | omega | (simp only [ints_length, List.length_replicate, List.length_set]; done) | (simp only [ints_length, List.length_replicate, List.length_set]; omega)) only [Sall,evalOp,init,binE,binI,unE,convE,okNil,builtE,gv,TD.isAgg,resV,↓reduceIte,Nat.reduceEqDiff,reduceCtorEq,Nat.reduceAdd,Nat.reduceMul,Nat.reduceLeDiff,quietOp,blindOp,Int.reduceEq,Int.reduceLT,Int.reduceLE,Nat.reduceLT,ti2,ti3,ti4,ti45,ti46,ti38,ti25,ti30,ti22,ti32,ti24,ti95,ti172,ti169,ti165,ti166,ti65,ti143,ti87, h9, h5, h6, h7, h2]
      refine awp_loop (fun z t H8 => ∃ (j : Nat) (y : Int), z = j ∧ j ≤ a ∧ bubAt G (rankL G a) a a = bubAt G (rankL G a) a j ∧ t 10 = .int .i64 j ∧ t 9 = .int .i64 a ∧ t 8 = .slice (some ⟨oi, 0, some 1⟩) (a + 1) (a + 1) ∧ t 5 = w1 ∧ t 6 = w2 ∧ t 7 = w3 ∧ t 2 = .pointer (some ⟨H.next, 0, none⟩) ∧ Up H4.next H4 H8 ∧ oi < H8.next ∧ H8.row oi = some ⟨2, true, ints (insAt (rankL G a) j y)⟩) a ?_ ?_
      · refine ⟨a, a, rfl, Nat.le_refl _, rfl, ?_⟩
        try simp (disch := first | omega | (simp only [ints_length, List.length_replicate, List.length_set]; done) | (simp only [ints_length, List.length_replicate, List.length_set]; omega)) only [Sall,evalOp,init,binE,binI,unE,convE,okNil,builtE,gv,TD.isAgg,resV,↓reduceIte,Nat.reduceEqDiff,reduceCtorEq,Nat.reduceAdd,Nat.reduceMul,Nat.reduceLeDiff,quietOp,blindOp,Int.reduceEq,Int.reduceLT,Int.reduceLE,Nat.reduceLT,ti2,ti3,ti4,ti45,ti46,ti38,ti25,ti30,ti22,ti32,ti24,ti95,ti172,ti169,ti165,ti166,ti65,ti143,ti87, h9, h5, h6, h7, h2]
        exact ⟨up7, by omega, p3⟩
      · rintro z t H8 ⟨j, y, hz, hja, hbub, h10, h9, h8, h5, h6, h7, h2, u8, o8, r8⟩
        have n8 := u8.next
        have hil : (insAt (rankL G a) j y).length = a + 1 := by rw [insAt_length (by omega), hla]
        try simp (disch := first | omega | (simp only [ints_length, List.length_replicate, List.length_set]; done) | (simp only [ints_length, List.length_replicate, List.length_set]; omega)) only [Sall,evalOp,init,binE,binI,unE,convE,okNil,builtE,gv,TD.isAgg,resV,↓reduceIte,Nat.reduceEqDiff,reduceCtorEq,Nat.reduceAdd,Nat.reduceMul,Nat.reduceLeDiff,quietOp,blindOp,Int.reduceEq,Int.reduceLT,Int.reduceLE,Nat.reduceLT,ti2,ti3,ti4,ti45,ti46,ti38,ti25,ti30,ti22,ti32,ti24,ti95,ti172,ti169,ti165,ti166,ti65,ti143,ti87, h10]
        refine condC_dec (fun h => ?_) (fun h => ?_)
        · have q1 : H8.row y1 = some ⟨2, true, ints ps⟩ := by rw [u8.row _ (by omega)]; exact r1
          have q2 : H8.row y2 = some ⟨2, true, ints ss⟩ := by rw [u8.row _ (by omega)]; exact r2
          have q3 : H8.row y3 = some ⟨2, true, ints ts⟩ := by rw [u8.row _ (by omega)]; exact r3
          have gb := insAt_get (show j - 1 < j by omega) (show j ≤ (rankL G a).length by omega) y
          have gr := rankL_get G a (j - 1) (by omega)
          have gset := insAt_set (show j ≤ (rankL G a).length by omega) ((rankL G a).getD (j - 1) 0) y
          have gstep := insAt_step (l := rankL G a) (j := j - 1) (by omega)
          have gby := bubAt_yes (g := G) (l := rankL G a) (x := (a : Int)) (j := j - 1)
          have gbn := bubAt_no (g := G) (l := rankL G a) (x := (a : Int)) (j := j - 1)
          rw [show j - 1 + 1 = j by omega] at gstep gby gbn
          have e2 : (ints (insAt (rankL G a) j y))[j - 1]? = some (.int .i64 ((rankL G a).getD (j - 1) 0)) := by
            rw [ints_get? _ _ (by omega), gb]
          revert gr gset gstep gby gbn e2
          generalize (rankL G a).getD (j - 1) 0 = bI
          intro gr gset gstep gby gbn e2
          obtain ⟨bN, rfl⟩ : ∃ bN : Nat, bI = bN := ⟨bI.toNat, by omega⟩
          have hjm : ((j : Int) - 1).toNat = j - 1 := by omega
          have ga1 := ints_get? ps a (by omega)
          have ga2 := ints_get? ss a (by omega)
          have ga3 := ints_get? ts a (by omega)
          have gb1 := ints_get? ps bN (by omega)
          have gb2 := ints_get? ss bN (by omega)
          have gb3 := ints_get? ts bN (by omega)
          have eg : G a bN = (decide (ps.getD bN 0 < ps.getD a 0) || (decide (ps.getD a 0 = ps.getD bN 0) && (decide (ss.getD bN 0 < ss.getD a 0) || (decide (ss.getD a 0 = ss.getD bN 0) && decide (ts.getD bN 0 < ts.getD a 0))))) := by
            rw [eG]; rfl
          revert ga1 ga2 ga3 gb1 gb2 gb3 eg
          generalize ps.getD a 0 = pa
          generalize ps.getD bN 0 = pb
          generalize ss.getD a 0 = sa
          generalize ss.getD bN 0 = sb
          generalize ts.getD a 0 = ta
          generalize ts.getD bN 0 = tb
          intro ga1 ga2 ga3 gb1 gb2 gb3 eg
          try simp (disch := first | omega | (simp only [ints_length, List.length_replicate, List.length_set]; done) | (simp only [ints_length, List.length_replicate, List.length_set]; omega)) only [Sall,evalOp,init,binE,binI,unE,convE,okNil,builtE,gv,TD.isAgg,resV,↓reduceIte,Nat.reduceEqDiff,reduceCtorEq,Nat.reduceAdd,Nat.reduceMul,Nat.reduceLeDiff,quietOp,blindOp,Int.reduceEq,Int.reduceLT,Int.reduceLE,Nat.reduceLT,ti2,ti3,ti4,ti45,ti46,ti38,ti25,ti30,ti22,ti32,ti24,ti95,ti172,ti169,ti165,ti166,ti65,ti143,ti87, h8, r8, h10, e2, hjm, w64]
          (repeat refine And.intro (by omega) ?_)
          refine awp_cutQ (fun t H9 => t 12 = .bool (G a bN) ∧ t 11 = .int .i64 bN ∧ t 10 = .int .i64 j ∧ t 9 = .int .i64 a ∧ t 8 = .slice (some ⟨oi, 0, some 1⟩) (a + 1) (a + 1) ∧ t 5 = w1 ∧ t 6 = w2 ∧ t 7 = w3 ∧ t 2 = .pointer (some ⟨H.next, 0, none⟩) ∧ H9 = H8) ?_ ?_
          · refine draw_id (by kernel_rfl) (by kernel_rfl) ?_
            rw [eg]
            by_cases c1 : pb < pa
            · try simp (disch := first | omega | (simp only [ints_length, List.length_replicate, List.length_set]; done) | (simp only [ints_length, List.length_replicate, List.length_set]; omega)) only [Sall,evalOp,init,binE,binI,unE,convE,okNil,builtE,gv,TD.isAgg,resV,↓reduceIte,Nat.reduceEqDiff,reduceCtorEq,Nat.reduceAdd,Nat.reduceMul,Nat.reduceLeDiff,quietOp,blindOp,Int.reduceEq,Int.reduceLT,Int.reduceLE,Nat.reduceLT,ti2,ti3,ti4,ti45,ti46,ti38,ti25,ti30,ti22,ti32,ti24,ti95,ti172,ti169,ti165,ti166,ti65,ti143,ti87, h9, h5, h6, h7, h2, h8, h10, ew1, ew2, ew3, q1, q2, q3, ga1, ga2, ga3, gb1, gb2, gb3, c1, decide_true, Bool.true_or]
              omega
            · by_cases c2 : pa = pb
              · have k2 : (pa == pb) = true := by rw [c2]; exact beq_self_eq_true _
                have d2 := decide_eq_true c2
                by_cases c3 : sb < sa
                · try simp (disch := first | omega | (simp only [ints_length, List.length_replicate, List.length_set]; done) | (simp only [ints_length, List.length_replicate, List.length_set]; omega)) only [Sall,evalOp,init,binE,binI,unE,convE,okNil,builtE,gv,TD.isAgg,resV,↓reduceIte,Nat.reduceEqDiff,reduceCtorEq,Nat.reduceAdd,Nat.reduceMul,Nat.reduceLeDiff,quietOp,blindOp,Int.reduceEq,Int.reduceLT,Int.reduceLE,Nat.reduceLT,ti2,ti3,ti4,ti45,ti46,ti38,ti25,ti30,ti22,ti32,ti24,ti95,ti172,ti169,ti165,ti166,ti65,ti143,ti87, h9, h5, h6, h7, h2, h8, h10, ew1, ew2, ew3, q1, q2, q3, ga1, ga2, ga3, gb1, gb2, gb3, c1, k2, d2, c3, decide_true, decide_false, Bool.true_or, Bool.false_or, Bool.true_and]
                  omega
                · by_cases c4 : sa = sb
                  · have k4 : (sa == sb) = true := by rw [c4]; exact beq_self_eq_true _
                    have d4 := decide_eq_true c4
                    try simp (disch := first | omega | (simp only [ints_length, List.length_replicate, List.length_set]; done) | (simp only [ints_length, List.length_replicate, List.length_set]; omega)) only [Sall,evalOp,init,binE,binI,unE,convE,okNil,builtE,gv,TD.isAgg,resV,↓reduceIte,Nat.reduceEqDiff,reduceCtorEq,Nat.reduceAdd,Nat.reduceMul,Nat.reduceLeDiff,quietOp,blindOp,Int.reduceEq,Int.reduceLT,Int.reduceLE,Nat.reduceLT,ti2,ti3,ti4,ti45,ti46,ti38,ti25,ti30,ti22,ti32,ti24,ti95,ti172,ti169,ti165,ti166,ti65,ti143,ti87, h9, h5, h6, h7, h2, h8, h10, ew1, ew2, ew3, q1, q2, q3, ga1, ga2, ga3, gb1, gb2, gb3, c1, k2, d2, c3, k4, d4, decide_true, decide_false, Bool.true_or, Bool.false_or, Bool.true_and]
                    omega
                  · have k4 : (sa == sb) = false := by rw [beq_eq_false_iff_ne]; exact c4
                    have d4 := decide_eq_false c4
                    try simp (disch := first | omega | (simp only [ints_length, List.length_replicate, List.length_set]; done) | (simp only [ints_length, List.length_replicate, List.length_set]; omega)) only [Sall,evalOp,init,binE,binI,unE,convE,okNil,builtE,gv,TD.isAgg,resV,↓reduceIte,Nat.reduceEqDiff,reduceCtorEq,Nat.reduceAdd,Nat.reduceMul,Nat.reduceLeDiff,quietOp,blindOp,Int.reduceEq,Int.reduceLT,Int.reduceLE,Nat.reduceLT,ti2,ti3,ti4,ti45,ti46,ti38,ti25,ti30,ti22,ti32,ti24,ti95,ti172,ti169,ti165,ti166,ti65,ti143,ti87, h9, h5, h6, h7, h2, h8, h10, ew1, ew2, ew3, q1, q2, q3, ga1, ga2, ga3, gb1, gb2, gb3, c1, k2, d2, c3, k4, d4, decide_true, decide_false, Bool.true_or, Bool.false_or, Bool.true_and, Bool.false_and]
                    omega
              · have k2 : (pa == pb) = false := by rw [beq_eq_false_iff_ne]; exact c2
                have d2 := decide_eq_false c2
                try simp (disch := first | omega | (simp only [ints_length, List.length_replicate, List.length_set]; done) | (simp only [ints_length, List.length_replicate, List.length_set]; omega)) only [Sall,evalOp,init,binE,binI,unE,convE,okNil,builtE,gv,TD.isAgg,resV,↓reduceIte,Nat.reduceEqDiff,reduceCtorEq,Nat.reduceAdd,Nat.reduceMul,Nat.reduceLeDiff,quietOp,blindOp,Int.reduceEq,Int.reduceLT,Int.reduceLE,Nat.reduceLT,ti2,ti3,ti4,ti45,ti46,ti38,ti25,ti30,ti22,ti32,ti24,ti95,ti172,ti169,ti165,ti166,ti65,ti143,ti87, h9, h5, h6, h7, h2, h8, h10, ew1, ew2, ew3, q1, q2, q3, ga1, ga2, ga3, gb1, gb2, gb3, c1, k2, d2, decide_true, decide_false, Bool.true_or, Bool.false_or, Bool.true_and, Bool.false_and]
                omega
          · rintro t H9 ⟨h12, h11, h10, h9, h8, h5, h6, h7, h2, rfl⟩
            cases hg : G a bN with
            | true =>
              rw [hg] at h12
              try simp (disch := first | omega | (simp only [ints_length, List.length_replicate, List.length_set]; done) | (simp only [ints_length, List.length_replicate, List.length_set]; omega)) only [Sall,evalOp,init,binE,binI,unE,convE,okNil,builtE,gv,TD.isAgg,resV,↓reduceIte,Nat.reduceEqDiff,reduceCtorEq,Nat.reduceAdd,Nat.reduceMul,Nat.reduceLeDiff,quietOp,blindOp,Int.reduceEq,Int.reduceLT,Int.reduceLE,Nat.reduceLT,ti2,ti3,ti4,ti45,ti46,ti38,ti25,ti30,ti22,ti32,ti24,ti95,ti172,ti169,ti165,ti166,ti65,ti143,ti87, h12, Bool.not_true, h8, h10, h11, r8, w64]
              (repeat refine And.intro (by omega) ?_)
              refine ⟨j - 1, by omega, j - 1, bN, rfl, by omega, by rw [hbub, gby hg], by omega, h9, h5, h6, h7, h2, u8.set (by omega) _, o8, ?_⟩
              rw [ints_set, gset, gstep]
            | false =>
              rw [hg] at h12
              try simp (disch := first | omega | (simp only [ints_length, List.length_replicate, List.length_set]; done) | (simp only [ints_length, List.length_replicate, List.length_set]; omega)) only [Sall,evalOp,init,binE,binI,unE,convE,okNil,builtE,gv,TD.isAgg,resV,↓reduceIte,Nat.reduceEqDiff,reduceCtorEq,Nat.reduceAdd,Nat.reduceMul,Nat.reduceLeDiff,quietOp,blindOp,Int.reduceEq,Int.reduceLT,Int.reduceLE,Nat.reduceLT,ti2,ti3,ti4,ti45,ti46,ti38,ti25,ti30,ti22,ti32,ti24,ti95,ti172,ti169,ti165,ti166,ti65,ti143,ti87, h12, Bool.not_false, h8, h10, h9, r8, w64]
              (repeat refine And.intro (by omega) ?_)
              have hset := insAt_set (show j ≤ (rankL G a).length by omega) (a : Int) y
              refine ⟨n - (a + 1), by omega, a + 1, _, oi, rfl, by omega, by omega, rfl, h5, h6, h7, h2, u8.set (by omega) _, by omega, by rw [rankL_length]; omega, .inr ⟨oi, Nat.le_refl _, o8, rfl, ?_⟩⟩
              rw [ints_set, hset, rankL_succ, hbub, gbn hg, AH.setCells_row, if_pos rfl, r8]
              rfl
        · have hj0 : j = 0 := by omega
          subst hj0
          try simp (disch := first | omega | (simp only [ints_length, List.length_replicate, List.length_set]; done) | (simp only [ints_length, List.length_replicate, List.length_set]; omega)) only [Sall,evalOp,init,binE,binI,unE,convE,okNil,builtE,gv,TD.isAgg,resV,↓reduceIte,Nat.reduceEqDiff,reduceCtorEq,Nat.reduceAdd,Nat.reduceMul,Nat.reduceLeDiff,quietOp,blindOp,Int.reduceEq,Int.reduceLT,Int.reduceLE,Nat.reduceLT,ti2,ti3,ti4,ti45,ti46,ti38,ti25,ti30,ti22,ti32,ti24,ti95,ti172,ti169,ti165,ti166,ti65,ti143,ti87, h8, h10, h9, r8, w64]
          (repeat refine And.intro (by omega) ?_)
          have hset := insAt_set (show 0 ≤ (rankL G a).length by omega) (a : Int) y
          refine ⟨n - (a + 1), by omega, a + 1, _, oi, rfl, by omega, by omega, rfl, h5, h6, h7, h2, u8.set (by omega) _, by omega, by rw [rankL_length]; omega, .inr ⟨oi, Nat.le_refl _, o8, rfl, ?_⟩⟩
          rw [ints_set, hset, rankL_succ, hbub, bubAt_zero, AH.setCells_row, if_pos rfl, r8]
          rfl
    · have ha : a = n := by omega
      subst ha
      try simp (disch := first | omega | (simp only [ints_length, List.length_replicate, List.length_set]; done) | (simp only [ints_length, List.length_replicate, List.length_set]; omega)) only [Sall,evalOp,init,binE,binI,unE,convE,okNil,builtE,gv,TD.isAgg,resV,↓reduceIte,Nat.reduceEqDiff,reduceCtorEq,Nat.reduceAdd,Nat.reduceMul,Nat.reduceLeDiff,quietOp,blindOp,Int.reduceEq,Int.reduceLT,Int.reduceLE,Nat.reduceLT,ti2,ti3,ti4,ti45,ti46,ti38,ti25,ti30,ti22,ti32,ti24,ti95,ti172,ti169,ti165,ti166,ti65,ti143,ti87, h8]
      refine ⟨⟨by omega, fun i hi => by rw [hup.row i (by omega), u4.row i (by omega), up.row i hi]⟩, hfr.wide (by omega) (Nat.le_refl _)⟩

def rankR (q : Int) (k : Nat) (l : List Int) (ll : List (List Int)) : List Int :=
  if schedB q k l = true ∧ resB q.toNat k l ll = true then
    rankL (ahd (sumsF q.toNat (fun _ o => o) (meets q.toNat l ll ll.length)) (sumsF q.toNat (sumF false (sumsF q.toNat (fun _ o => o) (meets q.toNat l ll ll.length))) (meets q.toNat l ll ll.length)) (sumsF q.toNat (sumF true (sumsF q.toNat (fun _ o => o) (meets q.toNat l ll ll.length))) (meets q.toNat l ll ll.length))) q.toNat
  else []
theorem rankR_length (q : Int) (k : Nat) (l : List Int) (ll : List (List Int)) : (rankR q k l ll).length ≤ 14 := by
  unfold rankR
  split
  · rename_i h
    obtain ⟨h2, _, _⟩ := schedB_at h.1
    rw [rankL_length]
    omega
  · simp

theorem specRankingOf_c (q : Int) (v : Value) (k : Nat) (l : List Int) (x : Value) (ll : List (List Int)) (H : AH) (hv : Rd 14 H v k l) (hk : k ≤ 4294967296) (hx : Rd2 1 H x ll) (hl : ll.length ≤ 4294967296) (hl2 : ∀ y ∈ ll, y.length ≤ 4294967296) :
    ACalls Try.prog 71 [.agg #[.int .i64 q, v], x] H (fun r H' => ∃ u, r = .tuple #[u, .int .i64 (codeS q k l (resB q.toNat k l ll))] ∧ Up H.next H H' ∧ Fr 1 2 H.next H'.next H' u (rankR q k l ll).length (rankR q k l ll)) := by
  refine ACalls.wf (by kernel_rfl) fun hs => acalls_of_awp [.tmp 4, .tmp 5] Try.func71 (by kernel_rfl) rfl rfl (Nat.le_of_ble_eq_true rfl) (by kernel_rfl) ?_
  have hone := hv.one
  have up : Up H.next H (H.push ⟨32, true, [.int .i64 q, v]⟩) := (Up.refl _ H).push (Nat.le_refl _) _
  have e1 : (H.push ⟨32, true, [.int .i64 q, v]⟩).row H.next = some ⟨32, true, [.int .i64 q, v]⟩ := by rw [AH.push_row, if_pos rfl]
  have n1 : (H.push ⟨32, true, [.int .i64 q, v]⟩).next = H.next + 1 := rfl
  try simp (disch := first | omega | (simp only [ints_length, List.length_replicate, List.length_set]; done) | (simp only [ints_length, List.length_replicate, List.length_set]; omega)) only [Sall,evalOp,init,binE,binI,unE,convE,okNil,builtE,gv,TD.isAgg,resV,↓reduceIte,Nat.reduceEqDiff,reduceCtorEq,Nat.reduceAdd,Nat.reduceMul,Nat.reduceLeDiff,quietOp,blindOp,Int.reduceEq,Int.reduceLT,Int.reduceLE,Nat.reduceLT,ti2,ti3,ti4,ti45,ti46,ti38,ti25,ti30,ti22,ti32,ti24,ti95,ti172,ti169,ti165,ti166,ti65,ti143,ti87, hone]
  revert up e1 n1
  generalize H.push ⟨32, true, [.int .i64 q, v]⟩ = H1
  intro up e1 n1
  have hv1 := hv.same (up.le hs).row
  have hx1 := hx.same (up.le hs).row
  refine (l10Code_c q v k l x ll (.slice none 0 0) 0 [] H1 hv1 hk hx1 hl hl2 (fr_nil 0 0 0 _).rd (by omega)).to ?_
  rw [show (resB q.toNat k l ll && (List.range 0).all fun i => decide (0 ≤ ([] : List Int).getD i 0 ∧ ([] : List Int).getD i 0 ≤ q - 1)) = resB q.toNat k l ll from Bool.and_true _]
  by_cases hok : schedB q k l = true ∧ resB q.toNat k l ll = true
  · obtain ⟨hb, hres⟩ := hok
    obtain ⟨h2, _, _⟩ := schedB_at hb
    obtain ⟨n, rfl⟩ : ∃ n : Nat, q = n := ⟨q.toNat, by omega⟩
    unfold rankR
    rw [if_pos ⟨hb, hres⟩, codeS_yes hb hres]
    rw [Int.toNat_natCast] at hres ⊢
    try simp (disch := first | omega | (simp only [ints_length, List.length_replicate, List.length_set]; done) | (simp only [ints_length, List.length_replicate, List.length_set]; omega)) only [Sall,evalOp,init,binE,binI,unE,convE,okNil,builtE,gv,TD.isAgg,resV,↓reduceIte,Nat.reduceEqDiff,reduceCtorEq,Nat.reduceAdd,Nat.reduceMul,Nat.reduceLeDiff,quietOp,blindOp,Int.reduceEq,Int.reduceLT,Int.reduceLE,Nat.reduceLT,ti2,ti3,ti4,ti45,ti46,ti38,ti25,ti30,ti22,ti32,ti24,ti95,ti172,ti169,ti165,ti166,ti65,ti143,ti87, bne_self_eq_false, e1, builtE, hx1.len]
    refine (l10Ranking_c n v k l x ll _ _ _ H1 hb hres hl hv1 hx1 rfl rfl rfl).mono ?_
    rintro u H2 ⟨up2, hf⟩
    have hu := hf.rd.one
    refine Holds.mp ?_
    try simp (disch := first | omega | (simp only [ints_length, List.length_replicate, List.length_set]; done) | (simp only [ints_length, List.length_replicate, List.length_set]; omega)) only [Sall,evalOp,init,binE,binI,unE,convE,okNil,builtE,gv,TD.isAgg,resV,↓reduceIte,Nat.reduceEqDiff,reduceCtorEq,Nat.reduceAdd,Nat.reduceMul,Nat.reduceLeDiff,quietOp,blindOp,Int.reduceEq,Int.reduceLT,Int.reduceLE,Nat.reduceLT,ti2,ti3,ti4,ti45,ti46,ti38,ti25,ti30,ti22,ti32,ti24,ti95,ti172,ti169,ti165,ti166,ti65,ti143,ti87, hu]
    refine ⟨u, rfl, up.trans up2 (by omega), ?_⟩
    rw [rankL_length]
    exact hf.wide (by omega) (Nat.le_refl _)
  · have ec := codeS_no hok
    unfold rankR
    rw [if_neg hok]
    try simp (disch := first | omega | (simp only [ints_length, List.length_replicate, List.length_set]; done) | (simp only [ints_length, List.length_replicate, List.length_set]; omega)) only [Sall,evalOp,init,binE,binI,unE,convE,okNil,builtE,gv,TD.isAgg,resV,↓reduceIte,Nat.reduceEqDiff,reduceCtorEq,Nat.reduceAdd,Nat.reduceMul,Nat.reduceLeDiff,quietOp,blindOp,Int.reduceEq,Int.reduceLT,Int.reduceLE,Nat.reduceLT,ti2,ti3,ti4,ti45,ti46,ti38,ti25,ti30,ti22,ti32,ti24,ti95,ti172,ti169,ti165,ti166,ti65,ti143,ti87, ec]
    exact ⟨_, rfl, up, fr_nil _ _ _ _⟩

theorem RankingOf_c (q : Int) (v : Value) (k : Nat) (l : List Int) (x : Value) (ll : List (List Int)) (H : AH) (hv : Rd 14 H v k l) (hk : k ≤ 4294967296) (hx : Rd2 1 H x ll) (hl : ll.length ≤ 4294967296) (hl2 : ∀ y ∈ ll, y.length ≤ 4294967296) :
    ACalls Try.prog 70 [.agg #[.int .i64 q, v], x] H (fun r H' => ∃ u, r = .tuple #[u, .int .i64 (codeS q k l (resB q.toNat k l ll))] ∧ Up H.next H H' ∧ Fr 1 2 H.next H'.next H' u (rankR q k l ll).length (rankR q k l ll)) := by
  refine ACalls.wf (by kernel_rfl) fun hs => acalls_of_awp [.tmp 4, .tmp 5] Try.func70 (by kernel_rfl) rfl rfl (Nat.le_of_ble_eq_true rfl) (by kernel_rfl) ?_
  have hone := hv.one
  have up : Up H.next H (H.push ⟨32, true, [.int .i64 q, v]⟩) := (Up.refl _ H).push (Nat.le_refl _) _
  have e1 : (H.push ⟨32, true, [.int .i64 q, v]⟩).row H.next = some ⟨32, true, [.int .i64 q, v]⟩ := by rw [AH.push_row, if_pos rfl]
  have n1 : (H.push ⟨32, true, [.int .i64 q, v]⟩).next = H.next + 1 := rfl
  try simp (disch := first | omega | (simp only [ints_length, List.length_replicate, List.length_set]; done) | (simp only [ints_length, List.length_replicate, List.length_set]; omega)) only [Sall,evalOp,init,binE,binI,unE,convE,okNil,builtE,gv,TD.isAgg,resV,↓reduceIte,Nat.reduceEqDiff,reduceCtorEq,Nat.reduceAdd,Nat.reduceMul,Nat.reduceLeDiff,quietOp,blindOp,Int.reduceEq,Int.reduceLT,Int.reduceLE,Nat.reduceLT,ti2,ti3,ti4,ti45,ti46,ti38,ti25,ti30,ti22,ti32,ti24,ti95,ti172,ti169,ti165,ti166,ti65,ti143,ti87, hone]
  revert up e1 n1
  generalize H.push ⟨32, true, [.int .i64 q, v]⟩ = H1
  intro up e1 n1
  have hv1 := hv.same (up.le hs).row
  have hx1 := hx.same (up.le hs).row
  refine (resultsCode_c q v k l x ll 92 [] true H1 hv1 hk hx1 hl hl2 fun H' _ _ _ => always_c H').to ?_
  rw [Bool.and_true]
  by_cases hok : schedB q k l = true ∧ resB q.toNat k l ll = true
  · obtain ⟨hb, hres⟩ := hok
    obtain ⟨h2, _, _⟩ := schedB_at hb
    obtain ⟨n, rfl⟩ : ∃ n : Nat, q = n := ⟨q.toNat, by omega⟩
    unfold rankR
    rw [if_pos ⟨hb, hres⟩, codeS_yes hb hres]
    rw [Int.toNat_natCast] at hres ⊢
    try simp (disch := first | omega | (simp only [ints_length, List.length_replicate, List.length_set]; done) | (simp only [ints_length, List.length_replicate, List.length_set]; omega)) only [Sall,evalOp,init,binE,binI,unE,convE,okNil,builtE,gv,TD.isAgg,resV,↓reduceIte,Nat.reduceEqDiff,reduceCtorEq,Nat.reduceAdd,Nat.reduceMul,Nat.reduceLeDiff,quietOp,blindOp,Int.reduceEq,Int.reduceLT,Int.reduceLE,Nat.reduceLT,ti2,ti3,ti4,ti45,ti46,ti38,ti25,ti30,ti22,ti32,ti24,ti95,ti172,ti169,ti165,ti166,ti65,ti143,ti87, bne_self_eq_false, e1, builtE, hx1.len]
    refine (ranking_c n v k l x ll _ _ _ H1 hb hres hl hv1 hx1 rfl rfl rfl).mono ?_
    rintro u H2 ⟨up2, hf⟩
    have hu := hf.rd.one
    refine Holds.mp ?_
    try simp (disch := first | omega | (simp only [ints_length, List.length_replicate, List.length_set]; done) | (simp only [ints_length, List.length_replicate, List.length_set]; omega)) only [Sall,evalOp,init,binE,binI,unE,convE,okNil,builtE,gv,TD.isAgg,resV,↓reduceIte,Nat.reduceEqDiff,reduceCtorEq,Nat.reduceAdd,Nat.reduceMul,Nat.reduceLeDiff,quietOp,blindOp,Int.reduceEq,Int.reduceLT,Int.reduceLE,Nat.reduceLT,ti2,ti3,ti4,ti45,ti46,ti38,ti25,ti30,ti22,ti32,ti24,ti95,ti172,ti169,ti165,ti166,ti65,ti143,ti87, hu]
    refine ⟨u, rfl, up.trans up2 (by omega), ?_⟩
    rw [rankL_length]
    exact hf.wide (by omega) (Nat.le_refl _)
  · have ec := codeS_no hok
    unfold rankR
    rw [if_neg hok]
    try simp (disch := first | omega | (simp only [ints_length, List.length_replicate, List.length_set]; done) | (simp only [ints_length, List.length_replicate, List.length_set]; omega)) only [Sall,evalOp,init,binE,binI,unE,convE,okNil,builtE,gv,TD.isAgg,resV,↓reduceIte,Nat.reduceEqDiff,reduceCtorEq,Nat.reduceAdd,Nat.reduceMul,Nat.reduceLeDiff,quietOp,blindOp,Int.reduceEq,Int.reduceLT,Int.reduceLE,Nat.reduceLT,ti2,ti3,ti4,ti45,ti46,ti38,ti25,ti30,ti22,ti32,ti24,ti95,ti172,ti169,ti165,ti166,ti65,ti143,ti87, ec]
    exact ⟨_, rfl, up, fr_nil _ _ _ _⟩
end Go.Proofs.Ytgkmdfjjlghecaa.A
end

section
set_option linter.unusedSimpArgs false
set_option linter.unusedVariables false
namespace Go.Abs
open Go Go.RowKit

def okPool2 (ops : Array Oper) (post : OT) (qs : List Nat) : Nat → List Nat → List Nat → Array Bool → Bool
  | 0, cs, fs, listed => cs.isEmpty && okPre ops post [] fs qs listed
  | n + 1, cs, fs, listed =>
    if cs.isEmpty then okPre ops post [] fs qs listed else
    !(Region.ready .any ops listed).isEmpty && (Region.ready .any ops listed).all (fun i => headIs cs i || fs.contains i) &&
    (match cs with | c :: cs' => (!(Region.ready .any ops listed).contains c) || okPool2 ops post qs n cs' fs (listed.setIfInBounds c true) | [] => true) &&
    fs.all fun a => (!(Region.ready .any ops listed).contains a) || okPool2 ops post qs n cs (fs.erase a) (listed.setIfInBounds a true)

structure PoolK (P : Program) (ops : Array Oper) (Q : T → AH → Prop) (post : OT) (qs : List Nat) (J : List Nat → List Nat → T → AH → Prop) (K : List Nat → T → AH → Prop) : Prop where
  call : ∀ c cs fs t H, J (c :: cs) fs t H → stepI P ops (J cs fs) c (ops.toList[c]?) t H
  free : ∀ a cs fs t H, a ∈ fs → J cs fs t H → stepI P ops (J cs (fs.erase a)) a (ops.toList[a]?) t H
  quiet : ∀ fs t H, J [] fs t H → awpI P ops (K fs) qs t H
  free2 : ∀ a fs t H, a ∈ fs → K fs t H → stepI P ops (K (fs.erase a)) a (ops.toList[a]?) t H
  done : ∀ t H, K [] t H → awpT P ops Q post t H

def onlyNil (K : List Nat → T → AH → Prop) : List Nat → List Nat → T → AH → Prop
  | [], fs => K fs
  | _ :: _, _ => fun _ _ => False
theorem PoolK.toJ {P : Program} {ops : Array Oper} {Q : T → AH → Prop} {post : OT} {qs : List Nat} {J : List Nat → List Nat → T → AH → Prop} {K : List Nat → T → AH → Prop} (h : PoolK P ops Q post qs J K) : PoolJ P ops Q post (onlyNil K) where
  call := fun c cs fs t H hJ => hJ.elim
  free := fun a cs fs t H ha hJ => by
    cases cs with
    | nil => exact h.free2 a fs t H ha hJ
    | cons c cs => exact hJ.elim
  done := fun t H hJ => h.done t H hJ

theorem AAny_pool2 {P : Program} {ops : Array Oper} {Q : T → AH → Prop} {post : OT} {qs : List Nat} {J : List Nat → List Nat → T → AH → Prop} {K : List Nat → T → AH → Prop} (hJ : PoolK P ops Q post qs J K) : ∀ (n : Nat) (cs fs : List Nat) (listed : Array Bool) (t : T) (H : AH) (f : Nat), n = cs.length + fs.length → n + qs.length + post.depth ≤ f → Closed ops listed → okPool2 ops post qs n cs fs listed = true → J cs fs t H → AAny P ops Q f listed t H
  | 0, cs, fs, listed, t, H, f, hn, hf, hc, hok, h => by
    simp only [okPool2, Bool.and_eq_true, List.isEmpty_iff] at hok
    obtain ⟨rfl, h3⟩ := hok
    exact AAny_pre hJ.toJ [] fs qs listed t H f (by simp only [List.length_nil] at hn ⊢; omega) hc h3 (hJ.quiet fs t H h)
  | n + 1, cs, fs, listed, t, H, 0, hn, hf, hc, hok, h => by omega
  | n + 1, cs, fs, listed, t, H, f + 1, hn, hf, hc, hok, h => by
    unfold okPool2 at hok
    split at hok
    · rename_i he
      simp only [List.isEmpty_iff] at he
      subst he
      exact AAny_pre hJ.toJ [] fs qs listed t H (f + 1) (by simp only [List.length_nil] at hn ⊢; omega) hc hok (hJ.quiet fs t H h)
    · simp only [Bool.and_eq_true] at hok
      obtain ⟨⟨⟨h1, h2⟩, h3⟩, h4⟩ := hok
      refine ⟨fun h0 => (by rw [h0] at h1; simp at h1), fun i hi => ?_⟩
      have hci : (Region.ready .any ops listed).contains i = true := by simpa using hi
      have h5 := List.all_eq_true.1 h2 i hi
      rw [Bool.or_eq_true] at h5
      rcases h5 with h5 | h5
      · cases cs with
        | nil => simp [headIs] at h5
        | cons c cs' =>
          have e : i = c := by simpa [headIs] using h5
          subst e
          simp only [hci, Bool.not_true, Bool.false_or] at h3
          exact aStep_mono (stepI_s (hJ.call i cs' fs t H h)) fun t' H' hk => ⟨hk.1, AAny_pool2 hJ n cs' fs _ t' H' f (by simp only [List.length_cons] at hn; omega) (by omega) (hc.set hi) h3 hk.2⟩
      · have hm : i ∈ fs := List.contains_iff_mem.1 h5
        have h6 := List.all_eq_true.1 h4 i hm
        simp only [hci, Bool.not_true, Bool.false_or] at h6
        have hle := List.length_erase_of_mem hm
        have hpos := List.length_pos_of_mem hm
        exact aStep_mono (stepI_s (hJ.free i cs fs t H hm h)) fun t' H' hk => ⟨hk.1, AAny_pool2 hJ n cs (fs.erase i) _ t' H' f (by omega) (by omega) (hc.set hi) h6 hk.2⟩

def okPre2 (ops : Array Oper) (post : OT) (qs cs fs : List Nat) : List Nat → Array Bool → Bool
  | [], listed => okPool2 ops post qs (cs.length + fs.length) cs fs listed
  | i :: is, listed =>
    (match ops[i]? with
     | some o => if quietOp o.op = true then (Region.ready .any ops listed).contains i && Region.free .any ops listed i else Region.ready .any ops listed == [i]
     | none => false) && okPre2 ops post qs cs fs is (listed.setIfInBounds i true)

theorem AAny_pre2 {P : Program} {ops : Array Oper} {Q : T → AH → Prop} {post : OT} {qs : List Nat} {J : List Nat → List Nat → T → AH → Prop} {K : List Nat → T → AH → Prop} (hJ : PoolK P ops Q post qs J K) (cs fs : List Nat) : ∀ (is : List Nat) (listed : Array Bool) (t : T) (H : AH) (f : Nat), is.length + (cs.length + fs.length + qs.length + post.depth) ≤ f → Closed ops listed → okPre2 ops post qs cs fs is listed = true → awpI P ops (J cs fs) is t H → AAny P ops Q f listed t H
  | [], listed, t, H, f, hf, hc, hok, h => AAny_pool2 hJ _ cs fs listed t H f rfl (by simpa using hf) hc hok h
  | i :: is, listed, t, H, 0, hf, hc, hok, h => by simp at hf
  | i :: is, listed, t, H, f + 1, hf, hc, hok, h => by
    simp only [okPre2, Bool.and_eq_true] at hok
    simp only [List.length_cons] at hf
    obtain ⟨h1, h2⟩ := hok
    unfold awpI at h
    cases ho : ops[i]? with
    | none => simp [ho] at h1
    | some o =>
      simp only [ho] at h1
      split at h1
      · rename_i hq
        simp only [Bool.and_eq_true] at h1
        obtain ⟨hr, hfr⟩ := h1
        have hr' : i ∈ Region.ready .any ops listed := by simpa using hr
        obtain ⟨v, hy, hk⟩ := aStep_quiet ho hq (stepI_s h)
        exact AAny_first ho hq f listed t H hc (Region.free_spec ho hfr) hr' hy (AAny_pre2 hJ cs fs is _ _ H f (by omega) (hc.set hr') h2 hk.2)
      · have hr : Region.ready .any ops listed = [i] := by simpa using h1
        refine ⟨fun h0 => (by rw [hr] at h0; cases h0), fun j hj => ?_⟩
        have hji : j = i := by rw [hr] at hj; simpa using hj
        subst hji
        exact aStep_mono (stepI_s h) fun t' H' hk => ⟨hk.1, AAny_pre2 hJ cs fs is _ t' H' f (by omega) (hc.set hj) h2 hk.2⟩

theorem draw_pool2 {P : Program} {id : Nat} {ops : Array Oper} {Q : Exit → T → AH → Prop} {t : T} {H : AH} (is cs fs qs : List Nat) (post : OT) (hm : P.follows .mixedOrders = true) (hok : okPre2 ops post qs cs fs is (Array.replicate ops.size false) = true) (hl : is.length + (cs.length + fs.length + qs.length + post.depth) ≤ ops.size)
    (J : List Nat → List Nat → T → AH → Prop) (K : List Nat → T → AH → Prop) (hJ : PoolK P ops (Q .normal) post qs J K) (h : awpI P ops (J cs fs) is t H) : awp P (.region id ops true) Q t H := by
  intro base ρ w tmps QC hS hd hQ
  have hA := AAny_pre2 hJ cs fs is _ t H ops.size hl ⟨by simp, fun j oj hj hl => by rw [getD_replicate_false'] at hl; cases hl⟩ hok h
  refine wp_region_any hm (AAny_ok ops.size _ t H ρ w.drew tmps hA ⟨hS.1.drew, hS.2.ext (ext_drew (base := base) (H := H) w)⟩ ?_ fun t' H' ρ' w' tmps' hq hs he hz => ?_)
  · intro o ho i hi
    have := List.all_eq_true.1 hd o ho
    simp only [hi, decide_eq_true_eq] at this
    exact this
  · exact hQ .normal t' H' ρ' w' tmps' hq hs ((ext_drew (base := base) (H := H) (ρ := ρ) w).trans he) hz
end Go.Abs
end

section
set_option linter.unusedSimpArgs false
set_option linter.unusedVariables false
set_option maxRecDepth 100000
set_option maxHeartbeats 2000000
namespace Go.Proofs.Ytgkmdfjjlghecaa.A
open Go Go.Abs Go.RowKit

def ptrOf : Value → Nat
  | .pointer (some a) => a.block
  | _ => 0
/-- The ranking of the teams. -/
def rankQ (n : Nat) (l : List Int) (ll : List (List Int)) : List Int :=
  rankL (ahd (sumsF n (fun _ o => o) (meets n l ll ll.length)) (sumsF n (sumF false (sumsF n (fun _ o => o) (meets n l ll ll.length))) (meets n l ll ll.length)) (sumsF n (sumF true (sumsF n (fun _ o => o) (meets n l ll ll.length))) (meets n l ll ll.length))) n
/-- All next rounds, by the ranking's places. -/
def nextQ (n k : Nat) (l : List Int) (ll : List (List Int)) : List (List Int) :=
  matF n (fun i k' => mtM (meetM n l k) ((rankQ n l ll).getD i 0).toNat ((rankQ n l ll).getD k' 0).toNat) (n + 1) (freeL n) 0
/-- The code. -/
def nextC (q : Int) (k : Nat) (l : List Int) (ll : List (List Int)) : Int :=
  if codeS q k l (resB q.toNat k l ll) = 0 then (if q % 2 = 1 then 5 else if headB (nextQ q.toNat k l ll) = true then 0 else 4) else codeS q k l (resB q.toNat k l ll)
/-- The round. -/
def nextR (q : Int) (k : Nat) (l : List Int) (ll : List (List Int)) : List Int :=
  if codeS q k l (resB q.toNat k l ll) = 0 then (if q % 2 = 1 then List.replicate 14 0 else headR q.toNat (rankQ q.toNat l ll) (nextQ q.toNat k l ll)) else List.replicate 14 0
theorem nextR_length (q : Int) (k : Nat) (l : List Int) (ll : List (List Int)) : (nextR q k l ll).length = 14 := by
  unfold nextR
  split
  · split
    · rfl
    · exact headR_length _ _ _
  · rfl
theorem freeL_now {n : Nat} (hn : n ≤ 14) : NowOk n (freeL n) := ⟨freeL_length n, fun j hj => by
  have : (freeL (n : Int)).getD j 0 = (j : Int) := by
    unfold freeL
    rw [List.getD_eq_getElem?_getD, List.getElem?_map, List.getElem?_range (by omega)]
    show (if (j : Int) < (n : Int) then (j : Int) else 0) = j
    rw [if_pos (by omega)]
  omega⟩
theorem freeL_ren {n : Nat} {R : List Int} (hn : n ≤ 14) (hp : PermN n R) : renF R (freeL n) n = freeL n := by
  have hg : ∀ j, (freeL (n : Int)).getD j 0 = if j < n then (j : Int) else 0 := fun j => by
    unfold freeL
    rw [List.getD_eq_getElem?_getD, List.getElem?_map]
    by_cases h : j < 14
    · rw [List.getElem?_range h]
      show (if (j : Int) < (n : Int) then (j : Int) else 0) = _
      by_cases h2 : j < n
      · rw [if_pos h2, if_pos (by omega)]
      · rw [if_neg h2, if_neg (by omega)]
    · rw [List.getElem?_eq_none (by simpa using h), if_neg (by omega)]; rfl
  refine (ren_ext hn hp (freeL_length _) (fun j hj => ?_) fun x hx => ?_).symm
  · have := hp.rng j hj
    rw [hg, hg, if_pos (by omega), if_pos hj, Int.toNat_natCast]; omega
  · rw [hg, if_neg (by omega)]

structure NxJ (H1 : AH) (n : Nat) (M : List (List Int)) (R : List Int) (sv xv pv rv res : Value) (cs fs : List Nat) (t : T) (H : AH) : Prop where
  hcs : cs = [1, 4, 7, 8] ∨ cs = [4, 7, 8] ∨ cs = [7, 8] ∨ cs = [8] ∨ cs = []
  hfs : ∀ a ∈ fs, a = 12 ∧ fs = [12]
  t2 : t 2 = pv
  t4 : t 4 = rv
  t25 : t 25 = sv
  t27 : t 27 = sv
  t28 : t 28 = xv
  t31 : t 31 = .int .i64 n
  t32 : cs.contains 7 = false → t 32 = .agg (ints (freeL n)).toArray
  t33 : cs.contains 8 = false → t 33 = res
  t7 : fs.contains 12 = false → t 7 = .pointer (some ⟨ptrOf (t 7), 0, none⟩)
  own : Ow H1 H [if cs.contains 1 = true then .no else .sl2 Value.bool 87 4 (t 26) (mB n M n), if cs.contains 4 = true then .no else .sl 1 2 (t 29) n (ints R), if fs.contains 12 = true then .no else .row (ptrOf (t 7)) ⟨46, true, ints (List.replicate 14 0)⟩]

section
variable {H1 H2 H3 : AH} {n : Nat} {M : List (List Int)} {R : List Int} {sv xv pv rv res : Value} {fs : List Nat} {t : T}
theorem NxJ.call1 (h : NxJ H1 n M R sv xv pv rv res [1, 4, 7, 8] fs t H2) {w : Value} (o : Ow H2 H3 [.sl2 Value.bool 87 4 w (mB n M n)]) : NxJ H1 n M R sv xv pv rv res [4, 7, 8] fs (upd t 26 w) H3 :=
  ⟨.inr (.inl rfl), h.hfs, h.t2, h.t4, h.t25, h.t27, h.t28, h.t31, (fun e => by cases e), (fun e => by cases e), h.t7, (h.own.call o).put0⟩
theorem NxJ.call4 (h : NxJ H1 n M R sv xv pv rv res [4, 7, 8] fs t H2) {w : Value} (o : Ow H2 H3 [.sl 1 2 w n (ints R)]) : NxJ H1 n M R sv xv pv rv res [7, 8] fs (upd t 29 w) H3 :=
  ⟨.inr (.inr (.inl rfl)), h.hfs, h.t2, h.t4, h.t25, h.t27, h.t28, h.t31, (fun e => by cases e), (fun e => by cases e), h.t7, (h.own.call o).put1⟩
theorem NxJ.call7 (h : NxJ H1 n M R sv xv pv rv res [7, 8] fs t H2) : NxJ H1 n M R sv xv pv rv res [8] fs (upd t 32 (.agg (ints (freeL n)).toArray)) H2 :=
  ⟨.inr (.inr (.inr (.inl rfl))), h.hfs, h.t2, h.t4, h.t25, h.t27, h.t28, h.t31, (fun _ => rfl), (fun e => by cases e), h.t7, h.own⟩
theorem NxJ.call8 (h : NxJ H1 n M R sv xv pv rv res [8] fs t H2) : NxJ H1 n M R sv xv pv rv res [] fs (upd t 33 res) H2 :=
  ⟨.inr (.inr (.inr (.inr rfl))), h.hfs, h.t2, h.t4, h.t25, h.t27, h.t28, h.t31, fun _ => h.t32 rfl, fun _ => rfl, h.t7, h.own⟩
theorem NxJ.free {cs : List Nat} (h : NxJ H1 n M R sv xv pv rv res cs [12] t H2) : NxJ H1 n M R sv xv pv rv res cs [] (upd t 7 (.pointer (some ⟨H2.next, 0, none⟩))) (H2.push ⟨46, true, ints (List.replicate 14 0)⟩) :=
  ⟨h.hcs, (fun a ha => by cases ha), h.t2, h.t4, h.t25, h.t27, h.t28, h.t31, h.t32, h.t33, fun _ => rfl, (h.own.push _).put2⟩
end

theorem specNextRound_c (q : Int) (v : Value) (k : Nat) (l : List Int) (x : Value) (ll : List (List Int)) (H : AH) (hv : Rd 14 H v k l) (hk : k ≤ 4294967296) (hx : Rd2 1 H x ll) (hl : ll.length ≤ 4294967296) (hl2 : ∀ y ∈ ll, y.length ≤ 4294967296) :
    ACalls Try.prog 26 [.agg #[.int .i64 q, v], x] H (is (.tuple #[.agg (ints (nextR q k l ll)).toArray, .int .i64 (nextC q k l ll)]) H) := by
  have hfl : flat (.tuple #[.agg (ints (nextR q k l ll)).toArray, .int .i64 (nextC q k l ll)]) = true := by
    have := flat_ints (nextR q k l ll)
    simp only [flat, List.all_toArray, List.all_cons, List.all_nil, Bool.and_true, this, Abs.scal]
  refine acalls_up hfl (ACalls.wf (by kernel_rfl) fun hs => acalls_of_awp [.cell 4 46, .tmp 5] Try.func26 (by kernel_rfl) rfl rfl (Nat.le_of_ble_eq_true rfl) (by kernel_rfl) ?_)
  clear hfl
  have hone := hv.one
  try simp (disch := first | omega | (simp only [ints_length, List.length_replicate, List.length_set]; done) | (simp only [ints_length, List.length_replicate, List.length_set]; omega)) only [Sall,evalOp,init,binE,binI,unE,convE,okNil,builtE,gv,TD.isAgg,resV,↓reduceIte,Nat.reduceEqDiff,reduceCtorEq,Nat.reduceAdd,Nat.reduceMul,Nat.reduceLeDiff,quietOp,blindOp,Int.reduceEq,Int.reduceLT,Int.reduceLE,Nat.reduceLT,ti2,ti3,ti4,ti45,ti46,ti38,ti25,ti30,ti22,ti32,ti24,ti95,ti172,ti169,ti165,ti166,ti65,ti143,ti87,ti110,ti56,ti101,ti5,ti159,ti62,ti161,ti51,ti57,ti9, hone]
  have o1 := ((Ow.refl hs).push ⟨32, true, [.int .i64 q, v]⟩).push ⟨46, true, ints (List.replicate 14 0)⟩
  obtain ⟨H1, eg⟩ : ∃ H1, H1 = (H.push ⟨32, true, [.int .i64 q, v]⟩).push ⟨46, true, ints (List.replicate 14 0)⟩ := ⟨_, rfl⟩
  rw [← eg] at o1 ⊢
  clear eg
  have g0 := (o1.rowAt 0 rfl).1
  have g1 : H1.row (H.next + 1) = _ := (o1.rowAt 1 rfl).1
  have hv1 := hv.same (o1.old hs)
  have hx1 := hx.same (o1.old hs)
  have hxo := hx.one
  try simp (disch := first | omega | (simp only [ints_length, List.length_replicate, List.length_set]; done) | (simp only [ints_length, List.length_replicate, List.length_set]; omega)) only [Sall,evalOp,init,binE,binI,unE,convE,okNil,builtE,gv,TD.isAgg,resV,↓reduceIte,Nat.reduceEqDiff,reduceCtorEq,Nat.reduceAdd,Nat.reduceMul,Nat.reduceLeDiff,quietOp,blindOp,Int.reduceEq,Int.reduceLT,Int.reduceLE,Nat.reduceLT,ti2,ti3,ti4,ti45,ti46,ti38,ti25,ti30,ti22,ti32,ti24,ti95,ti172,ti169,ti165,ti166,ti65,ti143,ti87,ti110,ti56,ti101,ti5,ti159,ti62,ti161,ti51,ti57,ti9, hone, g0]
  refine (l10Code_c q v k l x ll (.slice none 0 0) 0 [] H1 hv1 hk hx1 hl hl2 (fr_nil 0 0 0 _).rd (by omega)).to ?_
  rw [show (resB q.toNat k l ll && (List.range 0).all fun i => decide (0 ≤ ([] : List Int).getD i 0 ∧ ([] : List Int).getD i 0 ≤ q - 1)) = resB q.toNat k l ll from Bool.and_true _]
  have hn0 : nextC q k l ll = if codeS q k l (resB q.toNat k l ll) = 0 then (if q % 2 = 1 then 5 else if headB (nextQ q.toNat k l ll) = true then 0 else 4) else codeS q k l (resB q.toNat k l ll) := rfl
  have hr0 : nextR q k l ll = if codeS q k l (resB q.toNat k l ll) = 0 then (if q % 2 = 1 then List.replicate 14 0 else headR q.toNat (rankQ q.toNat l ll) (nextQ q.toNat k l ll)) else List.replicate 14 0 := rfl
  by_cases hok : schedB q k l = true ∧ resB q.toNat k l ll = true
  · obtain ⟨hb, hres⟩ := hok
    obtain ⟨h2, _, _⟩ := schedB_at hb
    obtain ⟨n, rfl⟩ : ∃ n : Nat, q = n := ⟨q.toNat, by omega⟩
    rw [codeS_yes hb hres, if_pos rfl] at hn0 hr0
    rw [codeS_yes hb hres]
    rw [Int.toNat_natCast] at hres hn0 hr0
    by_cases hodd : (n : Int) % 2 = 1
    · rw [if_pos hodd] at hn0 hr0
      have et : (n : Int).tmod 2 = 1 := by rw [Int.tmod_eq_emod_of_nonneg (by omega)]; exact hodd
      have ee : ((n : Int).tmod 2 == 1) = true := by rw [et]; rfl
      have e0 : ((0 : Int) == 0) = true := rfl
      have e5 : ((5 : Int) != 0) = true := rfl
      rw [hn0, hr0]
      try simp (disch := first | omega | (simp only [ints_length, List.length_replicate, List.length_set]; done) | (simp only [ints_length, List.length_replicate, List.length_set]; omega)) only [Sall,evalOp,init,binE,binI,unE,convE,okNil,builtE,gv,TD.isAgg,resV,↓reduceIte,Nat.reduceEqDiff,reduceCtorEq,Nat.reduceAdd,Nat.reduceMul,Nat.reduceLeDiff,quietOp,blindOp,Int.reduceEq,Int.reduceLT,Int.reduceLE,Nat.reduceLT,ti2,ti3,ti4,ti45,ti46,ti38,ti25,ti30,ti22,ti32,ti24,ti95,ti172,ti169,ti165,ti166,ti65,ti143,ti87,ti110,ti56,ti101,ti5,ti159,ti62,ti161,ti51,ti57,ti9, bne_self_eq_false, beq_self_eq_true, g0, g1, ee, e0, e5]
      exact (o1.putRow 1 rfl (cs' := ints (List.replicate 14 0))).up
    · rw [if_neg hodd] at hn0 hr0
      have et : ((n : Int).tmod 2 == 1) = false := by rw [Int.tmod_eq_emod_of_nonneg (by omega)]; exact beq_eq_false_iff_ne.2 hodd
      have e0 : ((0 : Int) == 0) = true := rfl
      have hM := meetM_sq n l k
      have hnq : nextQ n k l ll = matF n (fun i k' => mtM (meetM n l k) ((rankQ n l ll).getD i 0).toNat ((rankQ n l ll).getD k' 0).toNat) (n + 1) (freeL n) 0 := rfl
      have hperm : PermN n (rankQ n l ll) := rankL_perm _ n
      have hfree := freeL_ren (R := rankQ n l ll) (by omega) hperm
      have hnow := freeL_now (n := n) (by omega)
      have hmet : ∀ H', Up H1.next H1 H' → ACalls Try.prog 95 [.agg #[.int .i64 n, v]] H' (fun u H2 => Ow H' H2 [.sl2 Value.bool 87 4 u (mB n (meetM n l k) n)]) := fun H' u =>
        l02Met_c n v k l H' hb (hv1.same fun i r hr => by rw [u.row i (o1.sc _ _ hr), hr]) hk
      have hrank : ∀ H', Up H1.next H1 H' → ACalls Try.prog 96 [.agg #[.int .i64 n, v], x] H' (fun u H2 => Up H'.next H' H2 ∧ Fr 1 2 H'.next H2.next H2 u n (rankQ n l ll)) := fun H' u =>
        l10Ranking_c n v k l x ll _ _ _ H' hb hres hl (hv1.same fun i r hr => by rw [u.row i (o1.sc _ _ hr), hr]) (hx1.same fun i r hr => by rw [u.row i (o1.sc _ _ hr), hr]) rfl rfl rfl
      have hfr := freeS_c (n : Int) (by omega)
      have hnext : ∀ (H' : AH) (mv rv : Value), RdB H' mv n (mtM (meetM n l k)) → Rd 1 H' rv n (rankQ n l ll) → ACalls Try.prog 94 [mv, rv, .agg (ints (freeL n)).toArray] H' (is (.tuple #[.agg (ints (headR n (rankQ n l ll) (nextQ n k l ll))).toArray, .bool (headB (nextQ n k l ll))]) H') := fun H' mv rv h1 h2 => by
        have := l10Next_c n ⟨by omega, by omega⟩ (mtM (meetM n l k)) mv rv (rankQ n l ll) hperm (n + 1) (freeL n) 0 H' hnow (Nat.zero_le _) (fun j hj => by omega) (by omega) h1 h2
        rw [hfree] at this
        exact this
      have hlen := headR_length n (rankQ n l ll) (nextQ n k l ll)
      have hz : headB (nextQ n k l ll) = false → headR n (rankQ n l ll) (nextQ n k l ll) = List.replicate 14 0 := fun h => by
        unfold headB at h; unfold headR
        rw [Option.isSome_eq_false_iff, Option.isNone_iff_eq_none] at h; rw [h]
      revert hn0 hr0 hmet hrank hnext hlen hz
      generalize meetM n l k = M
      generalize rankQ n l ll = R
      generalize nextC (n : Int) k l ll = C
      generalize nextR (n : Int) k l ll = L
      generalize nextQ n k l ll = Q
      intro hn0 hr0 hmet hrank hnext hlen hz
      generalize headR n R Q = hdR at hr0 hnext hlen hz
      generalize headB Q = hdB at hn0 hnext hz
      subst hr0
      try simp (disch := first | omega | (simp only [ints_length, List.length_replicate, List.length_set]; done) | (simp only [ints_length, List.length_replicate, List.length_set]; omega)) only [Sall,evalOp,init,binE,binI,unE,convE,okNil,builtE,gv,TD.isAgg,resV,↓reduceIte,Nat.reduceEqDiff,reduceCtorEq,Nat.reduceAdd,Nat.reduceMul,Nat.reduceLeDiff,quietOp,blindOp,Int.reduceEq,Int.reduceLT,Int.reduceLE,Nat.reduceLT,ti2,ti3,ti4,ti45,ti46,ti38,ti25,ti30,ti22,ti32,ti24,ti95,ti172,ti169,ti165,ti166,ti65,ti143,ti87,ti110,ti56,ti101,ti5,ti159,ti62,ti161,ti51,ti57,ti9, bne_self_eq_false, beq_self_eq_true, g0, g1, et, e0]
      refine awp_cutQ (fun t H2 => t 2 = .pointer (some ⟨H.next, 0, none⟩) ∧ t 4 = .pointer (some ⟨H.next + 1, 0, none⟩) ∧ t 8 = .bool hdB ∧ ∃ i, t 7 = .pointer (some ⟨i, 0, none⟩) ∧ Ow H H2 [.row H.next ⟨32, true, [.int .i64 n, v]⟩, .row (H.next + 1) ⟨46, true, ints (List.replicate 14 0)⟩, .row i ⟨46, true, ints L⟩]) ?_ ?_
      · have hsv : Up H1.next H1 H1 := Up.refl _ _
        refine draw_pool2 [0, 2, 3, 5, 6] [1, 4, 7, 8] [12] [9, 10, 11] (OT.run [13, 14] .nil) (by kernel_rfl) (by kernel_rfl) (Nat.le_of_ble_eq_true rfl) (NxJ H1 n M R (.agg #[.int .i64 n, v]) x (.pointer (some ⟨H.next, 0, none⟩)) (.pointer (some ⟨H.next + 1, 0, none⟩)) (.tuple #[.agg (ints L).toArray, .bool hdB])) (fun fs t H2 => NxJ H1 n M R (.agg #[.int .i64 n, v]) x (.pointer (some ⟨H.next, 0, none⟩)) (.pointer (some ⟨H.next + 1, 0, none⟩)) (.tuple #[.agg (ints L).toArray, .bool hdB]) [] fs t H2 ∧ t 34 = .agg (ints L).toArray ∧ t 35 = .bool hdB) ⟨?_, ?_, ?_, ?_, ?_⟩ ?_
        · intro c cs fs t H2 hJ
          rcases hJ.hcs with e | e | e | e | e
          · injection e with e1 e2
            subst e1; subst e2
            have t25 := hJ.t25
            try simp (disch := first | omega | (simp only [ints_length, List.length_replicate, List.length_set]; done) | (simp only [ints_length, List.length_replicate, List.length_set]; omega)) only [Sall,evalOp,init,binE,binI,unE,convE,okNil,builtE,gv,TD.isAgg,resV,↓reduceIte,Nat.reduceEqDiff,reduceCtorEq,Nat.reduceAdd,Nat.reduceMul,Nat.reduceLeDiff,quietOp,blindOp,Int.reduceEq,Int.reduceLT,Int.reduceLE,Nat.reduceLT,ti2,ti3,ti4,ti45,ti46,ti38,ti25,ti30,ti22,ti32,ti24,ti95,ti172,ti169,ti165,ti166,ti65,ti143,ti87,ti110,ti56,ti101,ti5,ti159,ti62,ti161,ti51,ti57,ti9, awpT_nil, awpT_one, awpT_run_nil, awpT_run_cons, t25]
            refine (hmet H2 hJ.own.up).mono ?_
            rintro w H3 o3
            exact ⟨.inr (.inr (o3.up.le hJ.own.sc)), hJ.call1 o3⟩
          · injection e with e1 e2
            subst e1; subst e2
            have t27 := hJ.t27
            have t28 := hJ.t28
            try simp (disch := first | omega | (simp only [ints_length, List.length_replicate, List.length_set]; done) | (simp only [ints_length, List.length_replicate, List.length_set]; omega)) only [Sall,evalOp,init,binE,binI,unE,convE,okNil,builtE,gv,TD.isAgg,resV,↓reduceIte,Nat.reduceEqDiff,reduceCtorEq,Nat.reduceAdd,Nat.reduceMul,Nat.reduceLeDiff,quietOp,blindOp,Int.reduceEq,Int.reduceLT,Int.reduceLE,Nat.reduceLT,ti2,ti3,ti4,ti45,ti46,ti38,ti25,ti30,ti22,ti32,ti24,ti95,ti172,ti169,ti165,ti166,ti65,ti143,ti87,ti110,ti56,ti101,ti5,ti159,ti62,ti161,ti51,ti57,ti9, awpT_nil, awpT_one, awpT_run_nil, awpT_run_cons, t27, t28]
            refine (hrank H2 hJ.own.up).sc.mono ?_
            rintro w H3 ⟨⟨up3, hf3⟩, sc3⟩
            exact ⟨.inr (.inr (up3.le hJ.own.sc)), hJ.call4 (Ow.of_fr up3 sc3 hf3)⟩
          · injection e with e1 e2
            subst e1; subst e2
            have t31 := hJ.t31
            try simp (disch := first | omega | (simp only [ints_length, List.length_replicate, List.length_set]; done) | (simp only [ints_length, List.length_replicate, List.length_set]; omega)) only [Sall,evalOp,init,binE,binI,unE,convE,okNil,builtE,gv,TD.isAgg,resV,↓reduceIte,Nat.reduceEqDiff,reduceCtorEq,Nat.reduceAdd,Nat.reduceMul,Nat.reduceLeDiff,quietOp,blindOp,Int.reduceEq,Int.reduceLT,Int.reduceLE,Nat.reduceLT,ti2,ti3,ti4,ti45,ti46,ti38,ti25,ti30,ti22,ti32,ti24,ti95,ti172,ti169,ti165,ti166,ti65,ti143,ti87,ti110,ti56,ti101,ti5,ti159,ti62,ti161,ti51,ti57,ti9, awpT_nil, awpT_one, awpT_run_nil, awpT_run_cons, t31]
            refine (hfr H2).to ?_
            exact ⟨.inr (.inr ⟨Nat.le_refl _, fun _ _ h => h⟩), hJ.call7⟩
          · injection e with e1 e2
            subst e1; subst e2
            have t32 := hJ.t32 rfl
            try simp (disch := first | omega | (simp only [ints_length, List.length_replicate, List.length_set]; done) | (simp only [ints_length, List.length_replicate, List.length_set]; omega)) only [Sall,evalOp,init,binE,binI,unE,convE,okNil,builtE,gv,TD.isAgg,resV,↓reduceIte,Nat.reduceEqDiff,reduceCtorEq,Nat.reduceAdd,Nat.reduceMul,Nat.reduceLeDiff,quietOp,blindOp,Int.reduceEq,Int.reduceLT,Int.reduceLE,Nat.reduceLT,ti2,ti3,ti4,ti45,ti46,ti38,ti25,ti30,ti22,ti32,ti24,ti95,ti172,ti169,ti165,ti166,ti65,ti143,ti87,ti110,ti56,ti101,ti5,ti159,ti62,ti161,ti51,ti57,ti9, awpT_nil, awpT_one, awpT_run_nil, awpT_run_cons, t32]
            refine (hnext H2 _ _ (Ow.rdB hJ.own 0 (by omega) rfl) (hJ.own.rd 1 rfl)).to ?_
            exact ⟨.inr (.inr ⟨Nat.le_refl _, fun _ _ h => h⟩), hJ.call8⟩
          · cases e
        · intro a cs fs t H2 ha hJ
          obtain ⟨rfl, rfl⟩ := hJ.hfs a ha
          try simp (disch := first | omega | (simp only [ints_length, List.length_replicate, List.length_set]; done) | (simp only [ints_length, List.length_replicate, List.length_set]; omega)) only [Sall,evalOp,init,binE,binI,unE,convE,okNil,builtE,gv,TD.isAgg,resV,↓reduceIte,Nat.reduceEqDiff,reduceCtorEq,Nat.reduceAdd,Nat.reduceMul,Nat.reduceLeDiff,quietOp,blindOp,Int.reduceEq,Int.reduceLT,Int.reduceLE,Nat.reduceLT,ti2,ti3,ti4,ti45,ti46,ti38,ti25,ti30,ti22,ti32,ti24,ti95,ti172,ti169,ti165,ti166,ti65,ti143,ti87,ti110,ti56,ti101,ti5,ti159,ti62,ti161,ti51,ti57,ti9, awpT_nil, awpT_one, awpT_run_nil, awpT_run_cons]
          exact ⟨.inr (.inr (hJ.own.sc.le _)), hJ.free⟩
        · intro fs t H2 hJ
          have t33 := hJ.t33 rfl
          try simp (disch := first | omega | (simp only [ints_length, List.length_replicate, List.length_set]; done) | (simp only [ints_length, List.length_replicate, List.length_set]; omega)) only [Sall,evalOp,init,binE,binI,unE,convE,okNil,builtE,gv,TD.isAgg,resV,↓reduceIte,Nat.reduceEqDiff,reduceCtorEq,Nat.reduceAdd,Nat.reduceMul,Nat.reduceLeDiff,quietOp,blindOp,Int.reduceEq,Int.reduceLT,Int.reduceLE,Nat.reduceLT,ti2,ti3,ti4,ti45,ti46,ti38,ti25,ti30,ti22,ti32,ti24,ti95,ti172,ti169,ti165,ti166,ti65,ti143,ti87,ti110,ti56,ti101,ti5,ti159,ti62,ti161,ti51,ti57,ti9, awpT_nil, awpT_one, awpT_run_nil, awpT_run_cons, t33]
          exact ⟨hJ.hcs, hJ.hfs, hJ.t2, hJ.t4, hJ.t25, hJ.t27, hJ.t28, hJ.t31, hJ.t32, hJ.t33, hJ.t7, hJ.own⟩
        · rintro a fs t H2 ha ⟨hJ, h81, h82⟩
          obtain ⟨rfl, rfl⟩ := hJ.hfs a ha
          try simp (disch := first | omega | (simp only [ints_length, List.length_replicate, List.length_set]; done) | (simp only [ints_length, List.length_replicate, List.length_set]; omega)) only [Sall,evalOp,init,binE,binI,unE,convE,okNil,builtE,gv,TD.isAgg,resV,↓reduceIte,Nat.reduceEqDiff,reduceCtorEq,Nat.reduceAdd,Nat.reduceMul,Nat.reduceLeDiff,quietOp,blindOp,Int.reduceEq,Int.reduceLT,Int.reduceLE,Nat.reduceLT,ti2,ti3,ti4,ti45,ti46,ti38,ti25,ti30,ti22,ti32,ti24,ti95,ti172,ti169,ti165,ti166,ti65,ti143,ti87,ti110,ti56,ti101,ti5,ti159,ti62,ti161,ti51,ti57,ti9, awpT_nil, awpT_one, awpT_run_nil, awpT_run_cons]
          exact ⟨.inr (.inr (hJ.own.sc.le _)), hJ.free, h81, h82⟩
        · rintro t H2 ⟨hJ, h81, h82⟩
          have t7 := hJ.t7 rfl
          have hown := hJ.own
          obtain ⟨i7, hi7⟩ : ∃ i, i = ptrOf (t 7) := ⟨_, rfl⟩
          rw [← hi7] at t7 hown
          have r7 := (hown.rowAt 2 rfl).1
          have t2 := hJ.t2
          have t4 := hJ.t4
          try simp (disch := first | omega | (simp only [ints_length, List.length_replicate, List.length_set]; done) | (simp only [ints_length, List.length_replicate, List.length_set]; omega)) only [Sall,evalOp,init,binE,binI,unE,convE,okNil,builtE,gv,TD.isAgg,resV,↓reduceIte,Nat.reduceEqDiff,reduceCtorEq,Nat.reduceAdd,Nat.reduceMul,Nat.reduceLeDiff,quietOp,blindOp,Int.reduceEq,Int.reduceLT,Int.reduceLE,Nat.reduceLT,ti2,ti3,ti4,ti45,ti46,ti38,ti25,ti30,ti22,ti32,ti24,ti95,ti172,ti169,ti165,ti166,ti65,ti143,ti87,ti110,ti56,ti101,ti5,ti159,ti62,ti161,ti51,ti57,ti9, awpT_nil, awpT_one, awpT_run_nil, awpT_run_cons, t7, r7, h81, h82, hlen]
          refine ⟨.inr (.inl (by kernel_rfl)), ?_⟩
          try simp (disch := first | omega | (simp only [ints_length, List.length_replicate, List.length_set]; done) | (simp only [ints_length, List.length_replicate, List.length_set]; omega)) only [Sall,evalOp,init,binE,binI,unE,convE,okNil,builtE,gv,TD.isAgg,resV,↓reduceIte,Nat.reduceEqDiff,reduceCtorEq,Nat.reduceAdd,Nat.reduceMul,Nat.reduceLeDiff,quietOp,blindOp,Int.reduceEq,Int.reduceLT,Int.reduceLE,Nat.reduceLT,ti2,ti3,ti4,ti45,ti46,ti38,ti25,ti30,ti22,ti32,ti24,ti95,ti172,ti169,ti165,ti166,ti65,ti143,ti87,ti110,ti56,ti101,ti5,ti159,ti62,ti161,ti51,ti57,ti9, awpT_nil, awpT_one, awpT_run_nil, awpT_run_cons, t7, r7, t2, t4, h81, h82, hlen]
          exact ⟨i7, rfl, ((o1.call hown).putRow 4 rfl (cs' := ints L)).sub (fun j => if j = 2 then 4 else j) (fun j hj => match j, hj with | 0, _ => rfl | 1, _ => rfl | 2, _ => rfl) fun i j hi hj e => by
            simp only [List.length_cons, List.length_nil] at hi hj
            split at e <;> split at e <;> omega⟩
        · try simp (disch := first | omega | (simp only [ints_length, List.length_replicate, List.length_set]; done) | (simp only [ints_length, List.length_replicate, List.length_set]; omega)) only [Sall,evalOp,init,binE,binI,unE,convE,okNil,builtE,gv,TD.isAgg,resV,↓reduceIte,Nat.reduceEqDiff,reduceCtorEq,Nat.reduceAdd,Nat.reduceMul,Nat.reduceLeDiff,quietOp,blindOp,Int.reduceEq,Int.reduceLT,Int.reduceLE,Nat.reduceLT,ti2,ti3,ti4,ti45,ti46,ti38,ti25,ti30,ti22,ti32,ti24,ti95,ti172,ti169,ti165,ti166,ti65,ti143,ti87,ti110,ti56,ti101,ti5,ti159,ti62,ti161,ti51,ti57,ti9, awpT_nil, awpT_one, awpT_run_nil, awpT_run_cons, g0, hone]
          have oN : Ow H1 H1 [.no, .no, .no] := ((Ow.refl o1.sc).addNo).addNo.addNo
          exact ⟨.inl rfl, (fun a ha => ⟨by simpa using ha, rfl⟩), rfl, rfl, rfl, rfl, rfl, rfl, (fun e => by cases e), (fun e => by cases e), (fun e => by cases e), oN⟩
      · rintro t H2 ⟨h2, h4, h8, i, h7, o2⟩
        have r0 := (o2.rowAt 1 rfl).1
        have r1 := (o2.rowAt 2 rfl).1
        have ne := o2.ne (j := 1) (k := 2) rfl rfl (by omega) (fun S h => h.1) (fun S h => h.1)
        obtain hB | hB : hdB = true ∨ hdB = false := by cases hdB <;> simp
        · subst hB
          rw [if_pos rfl] at hn0
          rw [hn0]
          try simp (disch := first | omega | (simp only [ints_length, List.length_replicate, List.length_set]; done) | (simp only [ints_length, List.length_replicate, List.length_set]; omega)) only [Sall,evalOp,init,binE,binI,unE,convE,okNil,builtE,gv,TD.isAgg,resV,↓reduceIte,Nat.reduceEqDiff,reduceCtorEq,Nat.reduceAdd,Nat.reduceMul,Nat.reduceLeDiff,quietOp,blindOp,Int.reduceEq,Int.reduceLT,Int.reduceLE,Nat.reduceLT,ti2,ti3,ti4,ti45,ti46,ti38,ti25,ti30,ti22,ti32,ti24,ti95,ti172,ti169,ti165,ti166,ti65,ti143,ti87,ti110,ti56,ti101,ti5,ti159,ti62,ti161,ti51,ti57,ti9, h8, h7, h4, r0, r1, hlen]
          exact (o2.putRow 1 rfl (cs' := ints L)).up
        · subst hB
          rw [if_neg (by simp)] at hn0
          rw [hn0]
          have hz2 := hz rfl
          rw [hz2] at hlen ⊢
          try simp (disch := first | omega | (simp only [ints_length, List.length_replicate, List.length_set]; done) | (simp only [ints_length, List.length_replicate, List.length_set]; omega)) only [Sall,evalOp,init,binE,binI,unE,convE,okNil,builtE,gv,TD.isAgg,resV,↓reduceIte,Nat.reduceEqDiff,reduceCtorEq,Nat.reduceAdd,Nat.reduceMul,Nat.reduceLeDiff,quietOp,blindOp,Int.reduceEq,Int.reduceLT,Int.reduceLE,Nat.reduceLT,ti2,ti3,ti4,ti45,ti46,ti38,ti25,ti30,ti22,ti32,ti24,ti95,ti172,ti169,ti165,ti166,ti65,ti143,ti87,ti110,ti56,ti101,ti5,ti159,ti62,ti161,ti51,ti57,ti9, h8, h7, h4, r0, r1, hlen]
          exact (o2.putRow 1 rfl (cs' := ints (List.replicate 14 0))).up
  · have ec := codeS_no hok
    have ec1 : ¬ codeS q k l (resB q.toNat k l ll) = 0 := bne_iff_ne.1 ec
    have ec2 : (codeS q k l (resB q.toNat k l ll) == 0) = false := beq_eq_false_iff_ne.2 ec1
    rw [if_neg ec1] at hn0 hr0
    rw [hn0, hr0]
    try simp (disch := first | omega | (simp only [ints_length, List.length_replicate, List.length_set]; done) | (simp only [ints_length, List.length_replicate, List.length_set]; omega)) only [Sall,evalOp,init,binE,binI,unE,convE,okNil,builtE,gv,TD.isAgg,resV,↓reduceIte,Nat.reduceEqDiff,reduceCtorEq,Nat.reduceAdd,Nat.reduceMul,Nat.reduceLeDiff,quietOp,blindOp,Int.reduceEq,Int.reduceLT,Int.reduceLE,Nat.reduceLT,ti2,ti3,ti4,ti45,ti46,ti38,ti25,ti30,ti22,ti32,ti24,ti95,ti172,ti169,ti165,ti166,ti65,ti143,ti87,ti110,ti56,ti101,ti5,ti159,ti62,ti161,ti51,ti57,ti9, ec, ec2, g0, g1]
    exact (o1.putRow 1 rfl (cs' := ints (List.replicate 14 0))).up
end Go.Proofs.Ytgkmdfjjlghecaa.A
end

section
set_option linter.unusedSimpArgs false
set_option linter.unusedVariables false
set_option maxRecDepth 100000
set_option maxHeartbeats 2000000
namespace Go.Proofs.Ytgkmdfjjlghecaa.A
open Go Go.Abs Go.RowKit

theorem flatMap_same {α β : Type} {f g : α → List β} : ∀ (l : List α), (∀ a ∈ l, f a = g a) → l.flatMap f = l.flatMap g
  | [], _ => rfl
  | a :: l, h => by
    rw [List.flatMap_cons, List.flatMap_cons, h a (by simp), flatMap_same l fun b hb => h b (by simp [hb])]
theorem matF_congr {n : Nat} {mt mt' : Nat → Nat → Bool} (h : ∀ a b, a < n → b < n → mt a b = mt' a b) : ∀ (f : Nat) (now : List Int) (a : Nat), a ≤ n → matF n mt f now a = matF n mt' f now a
  | 0, _, _, _ => rfl
  | f + 1, now, a, ha => by
    have hA := fstF_ge now (n - a) a
    unfold matF
    by_cases c : fstF now (n - a) a = n
    · rw [if_pos c, if_pos c]
    · rw [if_neg c, if_neg c]
      refine flatMap_same _ fun b hb => ?_
      simp only [List.mem_range'_1] at hb
      unfold matB
      rw [h _ b (by omega) (by omega)]
      split
      · rfl
      · exact matF_congr h f _ _ (by omega)

theorem sl2_rd2 {ty ty' : TypeId} {v : Value} {ll : List (List Int)} {H : AH} {S : Nat → Prop} (hp : (Th.sl2 (Value.int .i64) ty ty' v ll).p H S) : Rd2 1 H v ll := by
  rcases hp with ⟨h1, h2⟩ | ⟨i, vs, o, h1, h2, rfl, h4, h5, h6⟩
  · exact .inl ⟨h1, none, 0, h2, fun _ => rfl⟩
  · refine .inr ⟨i, 0, some 1, _, _, rfl, h4, fun j hj => ?_⟩
    obtain ⟨x, hx, hq⟩ := h6 j hj
    rcases hq.2 with ⟨h7, h8⟩ | ⟨q, q1, q2, q3⟩
    · exact ⟨x, _, by rw [Nat.zero_add]; exact hx, (Fr.rd (ty := ty') (lo := 0) (hi := 0) ⟨by simp, .inl ⟨h7, h8⟩⟩ : Rd 1 H x (ll.getD j []).length (ll.getD j []))⟩
    · exact ⟨x, _, by rw [Nat.zero_add]; exact hx, (Fr.rd (ty := ty') (lo := 0) (hi := q + 1) ⟨by simp, .inr ⟨q, Nat.zero_le _, Nat.lt_succ_self _, q2, q3⟩⟩ : Rd 1 H x (ll.getD j []).length (ll.getD j []))⟩
theorem rd2_but {B H H' : AH} {L : List Th} (h : Ow B H L) (k j1 j2 : Nat) {ty ty' : TypeId} {v : Value} {ll : List (List Int)} {a b : Nat} {ra rb : Row} (hk : L[k]? = some (.sl2 (Value.int .i64) ty ty' v ll)) (h1 : L[j1]? = some (.row a ra)) (h2 : L[j2]? = some (.row b rb)) (n1 : k ≠ j1) (n2 : k ≠ j2)
    (hs : ∀ i, i < H.next → i ≠ a → i ≠ b → H'.row i = H.row i) : Rd2 1 H' v ll := by
  obtain ⟨o, ho⟩ := h.own
  have ha := (ho j1 _ h1).1
  have hb := (ho j2 _ h2).1
  exact sl2_rd2 ((Th.sl2 (Value.int .i64) ty ty' v ll).loc H H' _ _ (fun i hi => hi) (fun i r hi hr => by
    rw [hs i hi.2.1 (fun e => n1 (by rw [e] at hi; omega)) (fun e => n2 (by rw [e] at hi; omega)), hr]) (ho k _ hk))

/-- The meetings by places, on the way: whole rows below i, and k places of the row i. -/
def plM (n : Nat) (M : List (List Int)) (R : List Int) (i k : Nat) : List (List Int) := (List.range n).map fun a => (List.range n).map fun b => if a < i ∨ (a = i ∧ b < k) then (M.getD (R.getD a 0).toNat []).getD (R.getD b 0).toNat 0 else 0
theorem plM_length (n : Nat) (M : List (List Int)) (R : List Int) (i k : Nat) : (plM n M R i k).length = n := by simp [plM]
theorem plM_row {n : Nat} (M : List (List Int)) (R : List Int) (i k : Nat) {a : Nat} (ha : a < n) : (plM n M R i k).getD a [] = (List.range n).map fun b => if a < i ∨ (a = i ∧ b < k) then (M.getD (R.getD a 0).toNat []).getD (R.getD b 0).toNat 0 else 0 := by
  simp [plM, List.getD_eq_getElem?_getD, ha]
theorem plM_rl {n : Nat} (M : List (List Int)) (R : List Int) (i k : Nat) {a : Nat} (ha : a < n) : ((plM n M R i k).getD a []).length = n := by rw [plM_row M R i k ha]; simp
theorem plM_get {n : Nat} (M : List (List Int)) (R : List Int) {a b : Nat} (ha : a < n) (hb : b < n) : ((plM n M R n 0).getD a []).getD b 0 = (M.getD (R.getD a 0).toNat []).getD (R.getD b 0).toNat 0 := by
  rw [plM_row M R n 0 ha]
  simp [List.getD_eq_getElem?_getD, hb, ha]
theorem plM_zero (n : Nat) (M : List (List Int)) (R : List Int) : plM n M R 0 0 = zeroM n := by
  unfold plM zeroM
  apply List.ext_getElem
  · simp
  · intro a h1 h2
    simp only [List.getElem_map, List.getElem_range, List.getElem_replicate]
    apply List.ext_getElem
    · simp
    · intro b h3 h4
      simp
theorem plM_next (n : Nat) (M : List (List Int)) (R : List Int) (i : Nat) : plM n M R i n = plM n M R (i + 1) 0 := by
  unfold plM
  apply List.map_congr_left
  intro a ha
  apply List.map_congr_left
  intro b hb
  simp only [List.mem_range] at ha hb
  by_cases c : a < i ∨ (a = i ∧ b < n)
  · rw [if_pos c, if_pos (by omega)]
  · rw [if_neg c, if_neg (by omega)]
theorem plM_set {n : Nat} (M : List (List Int)) (R : List Int) {i k : Nat} (hi : i < n) (hk : k < n) : (plM n M R i k).set i (((plM n M R i k).getD i []).set k ((M.getD (R.getD i 0).toNat []).getD (R.getD k 0).toNat 0)) = plM n M R i (k + 1) := by
  rw [plM_row M R i k hi]
  unfold plM
  apply List.ext_getElem
  · simp
  · intro a h1 h2
    simp only [List.length_map, List.length_range] at h2
    rw [List.getElem_set]
    by_cases e : i = a
    · subst e
      rw [if_pos rfl]
      simp only [List.getElem_map, List.getElem_range]
      apply List.ext_getElem
      · simp
      · intro b h3 h4
        simp only [List.length_map, List.length_range] at h4
        rw [List.getElem_set]
        simp only [List.getElem_map, List.getElem_range, true_and]
        by_cases e2 : k = b
        · subst e2; rw [if_pos rfl, if_pos (by omega)]
        · rw [if_neg e2]
          split <;> split <;> first | rfl | (exfalso; omega)
    · rw [if_neg e]
      simp only [List.getElem_map, List.getElem_range]
      apply List.map_congr_left
      intro b hb
      split <;> split <;> first | rfl | (exfalso; omega)

structure NyJ (H1 : AH) (n : Nat) (M : List (List Int)) (R : List Int) (sv xv pv rv : Value) (cs fs : List Nat) (t : T) (H : AH) : Prop where
  hcs : cs = [2, 4, 7] ∨ cs = [4, 7] ∨ cs = [7] ∨ cs = []
  hfs : ∀ a ∈ fs, a = 8 ∧ fs = [8]
  t2 : t 2 = pv
  t4 : t 4 = rv
  t31 : t 31 = sv
  t32 : t 32 = xv
  t34 : t 34 = sv
  t37 : t 37 = .int .i64 n
  t7 : fs.contains 8 = false → t 7 = .pointer (some ⟨ptrOf (t 7), 0, none⟩)
  own : Ow H1 H [if cs.contains 2 = true then .no else .sl 1 2 (t 33) n (ints R), if cs.contains 4 = true then .no else .sl2 (Value.int .i64) 38 2 (t 35) M, if cs.contains 7 = true then .no else .sl2 (Value.int .i64) 38 2 (t 38) (zeroM n), if fs.contains 8 = true then .no else .row (ptrOf (t 7)) ⟨38, true, [.slice none 0 0]⟩]

theorem Ow.at4 {B H : AH} {a b c d e : Th} (h : Ow B H [a, b, c, d, e]) : Ow B H [e, b, c, d] ∧ Ow B H [a, e, c, d] ∧ Ow B H [a, b, e, d] ∧ Ow B H [a, b, c, e] := by
  refine ⟨h.sub (fun j => if j = 0 then 4 else j) (fun j hj => match j, hj with | 0, _ => rfl | 1, _ => rfl | 2, _ => rfl | 3, _ => rfl) ?_, h.sub (fun j => if j = 1 then 4 else j) (fun j hj => match j, hj with | 0, _ => rfl | 1, _ => rfl | 2, _ => rfl | 3, _ => rfl) ?_,
    h.sub (fun j => if j = 2 then 4 else j) (fun j hj => match j, hj with | 0, _ => rfl | 1, _ => rfl | 2, _ => rfl | 3, _ => rfl) ?_, h.sub (fun j => if j = 3 then 4 else j) (fun j hj => match j, hj with | 0, _ => rfl | 1, _ => rfl | 2, _ => rfl | 3, _ => rfl) ?_⟩ <;>
  · intro i j hi hj e
    simp only [List.length_cons, List.length_nil] at hi hj
    split at e <;> split at e <;> omega
section
variable {H1 H2 H3 : AH} {n : Nat} {M : List (List Int)} {R : List Int} {sv xv pv rv : Value} {fs : List Nat} {t : T}
theorem NyJ.call2 (h : NyJ H1 n M R sv xv pv rv [2, 4, 7] fs t H2) {w : Value} (o : Ow H2 H3 [.sl 1 2 w n (ints R)]) : NyJ H1 n M R sv xv pv rv [4, 7] fs (upd t 33 w) H3 :=
  ⟨.inr (.inl rfl), h.hfs, h.t2, h.t4, h.t31, h.t32, h.t34, h.t37, h.t7, (Ow.at4 (h.own.call o)).1⟩
theorem NyJ.call4 (h : NyJ H1 n M R sv xv pv rv [4, 7] fs t H2) {w : Value} (o : Ow H2 H3 [.sl2 (Value.int .i64) 38 2 w M]) : NyJ H1 n M R sv xv pv rv [7] fs (upd t 35 w) H3 :=
  ⟨.inr (.inr (.inl rfl)), h.hfs, h.t2, h.t4, h.t31, h.t32, h.t34, h.t37, h.t7, (Ow.at4 (h.own.call o)).2.1⟩
theorem NyJ.call7 (h : NyJ H1 n M R sv xv pv rv [7] fs t H2) {w : Value} (o : Ow H2 H3 [.sl2 (Value.int .i64) 38 2 w (zeroM n)]) : NyJ H1 n M R sv xv pv rv [] fs (upd t 38 w) H3 :=
  ⟨.inr (.inr (.inr rfl)), h.hfs, h.t2, h.t4, h.t31, h.t32, h.t34, h.t37, h.t7, (Ow.at4 (h.own.call o)).2.2.1⟩
theorem NyJ.free {cs : List Nat} (h : NyJ H1 n M R sv xv pv rv cs [8] t H2) : NyJ H1 n M R sv xv pv rv cs [] (upd t 7 (.pointer (some ⟨H2.next, 0, none⟩))) (H2.push ⟨38, true, [.slice none 0 0]⟩) :=
  ⟨h.hcs, (fun a ha => by cases ha), h.t2, h.t4, h.t31, h.t32, h.t34, h.t37, (fun _ => rfl), (Ow.at4 (h.own.push _)).2.2.2⟩
end

/-- What the search's callback has seen. -/
def outS (n : Nat) (R : List Int) : Option (List Int) → List Int
  | none => List.replicate 14 0
  | some r => renF R r n
def nxInv (n : Nat) (R : List Int) (oi fi : Nat) (B : AH) (s : Option (List Int)) (H : AH) : Prop :=
  (∀ i, i < B.next → i ≠ oi → i ≠ fi → H.row i = B.row i) ∧ H.row oi = some ⟨46, true, ints (outS n R s)⟩ ∧ H.row fi = some ⟨4, true, [.bool s.isSome]⟩
theorem outS_length (n : Nat) (R : List Int) (s : Option (List Int)) : (outS n R s).length = 14 := by
  cases s
  · rfl
  · exact renF_length _ _ _
theorem fold_head (ls : List (List Int)) : (foldE (fun (_ : Option (List Int)) r => (false, some r)) ls none).2 = ls.head? := by cases ls <;> rfl

theorem NextRound_c (q : Int) (v : Value) (k : Nat) (l : List Int) (x : Value) (ll : List (List Int)) (H : AH) (hv : Rd 14 H v k l) (hk : k ≤ 4294967296) (hx : Rd2 1 H x ll) (hl : ll.length ≤ 4294967296) (hl2 : ∀ y ∈ ll, y.length ≤ 4294967296) :
    ACalls Try.prog 27 [.agg #[.int .i64 q, v], x] H (is (.tuple #[.agg (ints (nextR q k l ll)).toArray, .int .i64 (nextC q k l ll)]) H) := by
  have hfl : flat (.tuple #[.agg (ints (nextR q k l ll)).toArray, .int .i64 (nextC q k l ll)]) = true := by
    have := flat_ints (nextR q k l ll)
    simp only [flat, List.all_toArray, List.all_cons, List.all_nil, Bool.and_true, this, Abs.scal]
  refine acalls_up hfl (ACalls.wf (by kernel_rfl) fun hs => acalls_of_awp [.cell 4 46, .tmp 5] Try.func27 (by kernel_rfl) rfl rfl (Nat.le_of_ble_eq_true rfl) (by kernel_rfl) ?_)
  clear hfl
  have hone := hv.one
  try simp (disch := first | omega | (simp only [ints_length, List.length_replicate, List.length_set]; done) | (simp only [ints_length, List.length_replicate, List.length_set]; omega)) only [Sall,evalOp,init,binE,binI,unE,convE,okNil,builtE,gv,TD.isAgg,resV,↓reduceIte,Nat.reduceEqDiff,reduceCtorEq,Nat.reduceAdd,Nat.reduceMul,Nat.reduceLeDiff,quietOp,blindOp,Int.reduceEq,Int.reduceLT,Int.reduceLE,Nat.reduceLT,ti2,ti3,ti4,ti45,ti46,ti38,ti25,ti30,ti22,ti32,ti24,ti95,ti172,ti169,ti165,ti166,ti65,ti143,ti87,ti110,ti56,ti101,ti5,ti159,ti62,ti161,ti51,ti57,ti9, hone]
  have o1 := ((Ow.refl hs).push ⟨32, true, [.int .i64 q, v]⟩).push ⟨46, true, ints (List.replicate 14 0)⟩
  obtain ⟨H1, eg⟩ : ∃ H1, H1 = (H.push ⟨32, true, [.int .i64 q, v]⟩).push ⟨46, true, ints (List.replicate 14 0)⟩ := ⟨_, rfl⟩
  rw [← eg] at o1 ⊢
  clear eg
  have g0 := (o1.rowAt 0 rfl).1
  have g1 : H1.row (H.next + 1) = _ := (o1.rowAt 1 rfl).1
  have hv1 := hv.same (o1.old hs)
  have hx1 := hx.same (o1.old hs)
  have hxo := hx.one
  try simp (disch := first | omega | (simp only [ints_length, List.length_replicate, List.length_set]; done) | (simp only [ints_length, List.length_replicate, List.length_set]; omega)) only [Sall,evalOp,init,binE,binI,unE,convE,okNil,builtE,gv,TD.isAgg,resV,↓reduceIte,Nat.reduceEqDiff,reduceCtorEq,Nat.reduceAdd,Nat.reduceMul,Nat.reduceLeDiff,quietOp,blindOp,Int.reduceEq,Int.reduceLT,Int.reduceLE,Nat.reduceLT,ti2,ti3,ti4,ti45,ti46,ti38,ti25,ti30,ti22,ti32,ti24,ti95,ti172,ti169,ti165,ti166,ti65,ti143,ti87,ti110,ti56,ti101,ti5,ti159,ti62,ti161,ti51,ti57,ti9, hone, g0]
  refine (resultsCode_c q v k l x ll 92 [] true H1 hv1 hk hx1 hl hl2 fun H' _ _ _ => always_c H').to ?_
  rw [Bool.and_true]
  have hn0 : nextC q k l ll = if codeS q k l (resB q.toNat k l ll) = 0 then (if q % 2 = 1 then 5 else if headB (nextQ q.toNat k l ll) = true then 0 else 4) else codeS q k l (resB q.toNat k l ll) := rfl
  have hr0 : nextR q k l ll = if codeS q k l (resB q.toNat k l ll) = 0 then (if q % 2 = 1 then List.replicate 14 0 else headR q.toNat (rankQ q.toNat l ll) (nextQ q.toNat k l ll)) else List.replicate 14 0 := rfl
  by_cases hok : schedB q k l = true ∧ resB q.toNat k l ll = true
  · obtain ⟨hb, hres⟩ := hok
    obtain ⟨h2, _, _⟩ := schedB_at hb
    obtain ⟨n, rfl⟩ : ∃ n : Nat, q = n := ⟨q.toNat, by omega⟩
    rw [codeS_yes hb hres, if_pos rfl] at hn0 hr0
    rw [codeS_yes hb hres]
    rw [Int.toNat_natCast] at hres hn0 hr0
    by_cases hodd : (n : Int) % 2 = 1
    · rw [if_pos hodd] at hn0 hr0
      have et : (n : Int).tmod 2 = 1 := by rw [Int.tmod_eq_emod_of_nonneg (by omega)]; exact hodd
      have ee : ((n : Int).tmod 2 == 1) = true := by rw [et]; rfl
      have e0 : ((0 : Int) == 0) = true := rfl
      have e5 : ((5 : Int) != 0) = true := rfl
      rw [hn0, hr0]
      try simp (disch := first | omega | (simp only [ints_length, List.length_replicate, List.length_set]; done) | (simp only [ints_length, List.length_replicate, List.length_set]; omega)) only [Sall,evalOp,init,binE,binI,unE,convE,okNil,builtE,gv,TD.isAgg,resV,↓reduceIte,Nat.reduceEqDiff,reduceCtorEq,Nat.reduceAdd,Nat.reduceMul,Nat.reduceLeDiff,quietOp,blindOp,Int.reduceEq,Int.reduceLT,Int.reduceLE,Nat.reduceLT,ti2,ti3,ti4,ti45,ti46,ti38,ti25,ti30,ti22,ti32,ti24,ti95,ti172,ti169,ti165,ti166,ti65,ti143,ti87,ti110,ti56,ti101,ti5,ti159,ti62,ti161,ti51,ti57,ti9, bne_self_eq_false, beq_self_eq_true, g0, g1, ee, e0, e5]
      exact (o1.putRow 1 rfl (cs' := ints (List.replicate 14 0))).up
    · rw [if_neg hodd] at hn0 hr0
      have et : ((n : Int).tmod 2 == 1) = false := by rw [Int.tmod_eq_emod_of_nonneg (by omega)]; exact beq_eq_false_iff_ne.2 hodd
      have e0 : ((0 : Int) == 0) = true := rfl
      have hM := meetM_sq n l k
      have hnq : nextQ n k l ll = matF n (fun i k' => mtM (meetM n l k) ((rankQ n l ll).getD i 0).toNat ((rankQ n l ll).getD k' 0).toNat) (n + 1) (freeL n) 0 := rfl
      have hperm : PermN n (rankQ n l ll) := rankL_perm _ n
      have hmeet : ∀ H', Up H1.next H1 H' → ACalls Try.prog 99 [.agg #[.int .i64 n, v]] H' (fun u H2 => Up H'.next H' H2 ∧ Fr2 1 38 2 H'.next H2.next H2 u (meetM n l k)) := fun H' u =>
        meetings_c n v k l H' hb (hv1.same fun i r hr => by rw [u.row i (o1.sc _ _ hr), hr]) hk
      have hrank : ∀ H', Up H1.next H1 H' → ACalls Try.prog 98 [.agg #[.int .i64 n, v], x] H' (fun u H2 => Up H'.next H' H2 ∧ Fr 1 2 H'.next H2.next H2 u n (rankQ n l ll)) := fun H' u =>
        ranking_c n v k l x ll _ _ _ H' hb hres hl (hv1.same fun i r hr => by rw [u.row i (o1.sc _ _ hr), hr]) (hx1.same fun i r hr => by rw [u.row i (o1.sc _ _ hr), hr]) rfl rfl rfl
      have hsq := square_c n (by omega)
      have hzl : ∀ ls, headB ls = false → headR n (rankQ n l ll) ls = List.replicate 14 0 := fun ls h => by
        unfold headB at h; unfold headR
        rw [Option.isSome_eq_false_iff, Option.isNone_iff_eq_none] at h; rw [h]
      revert hn0 hr0 hmeet hrank hzl hM hnq hperm
      generalize meetM n l k = M
      generalize rankQ n l ll = R
      generalize nextC (n : Int) k l ll = C
      generalize nextR (n : Int) k l ll = L
      generalize nextQ n k l ll = Q
      intro hn0 hr0 hM hnq hperm hmeet hrank hzl
      have hMl : M.length = n := hM.1
      have hMr : ∀ a, a < n → (M.getD a []).length = n := hM.2
      try simp (disch := first | omega | (simp only [ints_length, List.length_replicate, List.length_set]; done) | (simp only [ints_length, List.length_replicate, List.length_set]; omega)) only [Sall,evalOp,init,binE,binI,unE,convE,okNil,builtE,gv,TD.isAgg,resV,↓reduceIte,Nat.reduceEqDiff,reduceCtorEq,Nat.reduceAdd,Nat.reduceMul,Nat.reduceLeDiff,quietOp,blindOp,Int.reduceEq,Int.reduceLT,Int.reduceLE,Nat.reduceLT,ti2,ti3,ti4,ti45,ti46,ti38,ti25,ti30,ti22,ti32,ti24,ti95,ti172,ti169,ti165,ti166,ti65,ti143,ti87,ti110,ti56,ti101,ti5,ti159,ti62,ti161,ti51,ti57,ti9, bne_self_eq_false, beq_self_eq_true, g0, g1, et, e0]
      refine awp_cutQ (fun t H2 => t 2 = .pointer (some ⟨H.next, 0, none⟩) ∧ t 4 = .pointer (some ⟨H.next + 1, 0, none⟩) ∧ ∃ (i : Nat) (rv mv pv : Value), t 7 = .pointer (some ⟨i, 0, none⟩) ∧ t 8 = mv ∧ t 9 = pv ∧ Ow H H2 [.row H.next ⟨32, true, [.int .i64 n, v]⟩, .row (H.next + 1) ⟨46, true, ints (List.replicate 14 0)⟩, .sl 1 2 rv n (ints R), .sl2 (Value.int .i64) 38 2 mv M, .sl2 (Value.int .i64) 38 2 pv (zeroM n), .row i ⟨38, true, [rv]⟩]) ?_ ?_
      · refine draw_pool [0, 1, 3, 5, 6] [2, 4, 7] [8] (OT.run [9, 10, 11] .nil) (by kernel_rfl) (by kernel_rfl) (Nat.le_of_ble_eq_true rfl) (NyJ H1 n M R (.agg #[.int .i64 n, v]) x (.pointer (some ⟨H.next, 0, none⟩)) (.pointer (some ⟨H.next + 1, 0, none⟩))) ⟨?_, ?_, ?_⟩ ?_
        · intro c cs fs t H2 hJ
          rcases hJ.hcs with e | e | e | e
          · injection e with e1 e2
            subst e1; subst e2
            have t31 := hJ.t31
            have t32 := hJ.t32
            try simp (disch := first | omega | (simp only [ints_length, List.length_replicate, List.length_set]; done) | (simp only [ints_length, List.length_replicate, List.length_set]; omega)) only [Sall,evalOp,init,binE,binI,unE,convE,okNil,builtE,gv,TD.isAgg,resV,↓reduceIte,Nat.reduceEqDiff,reduceCtorEq,Nat.reduceAdd,Nat.reduceMul,Nat.reduceLeDiff,quietOp,blindOp,Int.reduceEq,Int.reduceLT,Int.reduceLE,Nat.reduceLT,ti2,ti3,ti4,ti45,ti46,ti38,ti25,ti30,ti22,ti32,ti24,ti95,ti172,ti169,ti165,ti166,ti65,ti143,ti87,ti110,ti56,ti101,ti5,ti159,ti62,ti161,ti51,ti57,ti9, awpT_nil, awpT_one, awpT_run_nil, awpT_run_cons, t31, t32]
            refine (hrank H2 hJ.own.up).sc.mono ?_
            rintro w H3 ⟨⟨up3, hf3⟩, sc3⟩
            exact ⟨.inr (.inr (up3.le hJ.own.sc)), hJ.call2 (Ow.of_fr up3 sc3 hf3)⟩
          · injection e with e1 e2
            subst e1; subst e2
            have t34 := hJ.t34
            try simp (disch := first | omega | (simp only [ints_length, List.length_replicate, List.length_set]; done) | (simp only [ints_length, List.length_replicate, List.length_set]; omega)) only [Sall,evalOp,init,binE,binI,unE,convE,okNil,builtE,gv,TD.isAgg,resV,↓reduceIte,Nat.reduceEqDiff,reduceCtorEq,Nat.reduceAdd,Nat.reduceMul,Nat.reduceLeDiff,quietOp,blindOp,Int.reduceEq,Int.reduceLT,Int.reduceLE,Nat.reduceLT,ti2,ti3,ti4,ti45,ti46,ti38,ti25,ti30,ti22,ti32,ti24,ti95,ti172,ti169,ti165,ti166,ti65,ti143,ti87,ti110,ti56,ti101,ti5,ti159,ti62,ti161,ti51,ti57,ti9, awpT_nil, awpT_one, awpT_run_nil, awpT_run_cons, t34]
            refine (hmeet H2 hJ.own.up).sc.mono ?_
            rintro w H3 ⟨⟨up3, hf3⟩, sc3⟩
            exact ⟨.inr (.inr (up3.le hJ.own.sc)), hJ.call4 (Ow.of_fr2 up3 sc3 hf3)⟩
          · injection e with e1 e2
            subst e1; subst e2
            have t37 := hJ.t37
            try simp (disch := first | omega | (simp only [ints_length, List.length_replicate, List.length_set]; done) | (simp only [ints_length, List.length_replicate, List.length_set]; omega)) only [Sall,evalOp,init,binE,binI,unE,convE,okNil,builtE,gv,TD.isAgg,resV,↓reduceIte,Nat.reduceEqDiff,reduceCtorEq,Nat.reduceAdd,Nat.reduceMul,Nat.reduceLeDiff,quietOp,blindOp,Int.reduceEq,Int.reduceLT,Int.reduceLE,Nat.reduceLT,ti2,ti3,ti4,ti45,ti46,ti38,ti25,ti30,ti22,ti32,ti24,ti95,ti172,ti169,ti165,ti166,ti65,ti143,ti87,ti110,ti56,ti101,ti5,ti159,ti62,ti161,ti51,ti57,ti9, awpT_nil, awpT_one, awpT_run_nil, awpT_run_cons, t37]
            refine (hsq H2).sc.mono ?_
            rintro w H3 ⟨⟨up3, hf3⟩, sc3⟩
            exact ⟨.inr (.inr (up3.le hJ.own.sc)), hJ.call7 (Ow.of_fr2 up3 sc3 hf3)⟩
          · cases e
        · intro a cs fs t H2 ha hJ
          obtain ⟨rfl, rfl⟩ := hJ.hfs a ha
          try simp (disch := first | omega | (simp only [ints_length, List.length_replicate, List.length_set]; done) | (simp only [ints_length, List.length_replicate, List.length_set]; omega)) only [Sall,evalOp,init,binE,binI,unE,convE,okNil,builtE,gv,TD.isAgg,resV,↓reduceIte,Nat.reduceEqDiff,reduceCtorEq,Nat.reduceAdd,Nat.reduceMul,Nat.reduceLeDiff,quietOp,blindOp,Int.reduceEq,Int.reduceLT,Int.reduceLE,Nat.reduceLT,ti2,ti3,ti4,ti45,ti46,ti38,ti25,ti30,ti22,ti32,ti24,ti95,ti172,ti169,ti165,ti166,ti65,ti143,ti87,ti110,ti56,ti101,ti5,ti159,ti62,ti161,ti51,ti57,ti9, awpT_nil, awpT_one, awpT_run_nil, awpT_run_cons]
          exact ⟨.inr (.inr (hJ.own.sc.le _)), hJ.free⟩
        · intro t H2 hJ
          have t7 := hJ.t7 rfl
          have hown := hJ.own
          obtain ⟨i7, hi7⟩ : ∃ i, i = ptrOf (t 7) := ⟨_, rfl⟩
          rw [← hi7] at t7 hown
          have r7 := (hown.rowAt 3 rfl).1
          have t2 := hJ.t2
          have t4 := hJ.t4
          have ho33 := hown.one 0 rfl
          try simp (disch := first | omega | (simp only [ints_length, List.length_replicate, List.length_set]; done) | (simp only [ints_length, List.length_replicate, List.length_set]; omega)) only [Sall,evalOp,init,binE,binI,unE,convE,okNil,builtE,gv,TD.isAgg,resV,↓reduceIte,Nat.reduceEqDiff,reduceCtorEq,Nat.reduceAdd,Nat.reduceMul,Nat.reduceLeDiff,quietOp,blindOp,Int.reduceEq,Int.reduceLT,Int.reduceLE,Nat.reduceLT,ti2,ti3,ti4,ti45,ti46,ti38,ti25,ti30,ti22,ti32,ti24,ti95,ti172,ti169,ti165,ti166,ti65,ti143,ti87,ti110,ti56,ti101,ti5,ti159,ti62,ti161,ti51,ti57,ti9, awpT_nil, awpT_one, awpT_run_nil, awpT_run_cons, t7, r7, ho33]
          refine ⟨.inr (.inl (by kernel_rfl)), ?_⟩
          try simp (disch := first | omega | (simp only [ints_length, List.length_replicate, List.length_set]; done) | (simp only [ints_length, List.length_replicate, List.length_set]; omega)) only [Sall,evalOp,init,binE,binI,unE,convE,okNil,builtE,gv,TD.isAgg,resV,↓reduceIte,Nat.reduceEqDiff,reduceCtorEq,Nat.reduceAdd,Nat.reduceMul,Nat.reduceLeDiff,quietOp,blindOp,Int.reduceEq,Int.reduceLT,Int.reduceLE,Nat.reduceLT,ti2,ti3,ti4,ti45,ti46,ti38,ti25,ti30,ti22,ti32,ti24,ti95,ti172,ti169,ti165,ti166,ti65,ti143,ti87,ti110,ti56,ti101,ti5,ti159,ti62,ti161,ti51,ti57,ti9, awpT_nil, awpT_one, awpT_run_nil, awpT_run_cons, t7, r7, t2, t4]
          exact ⟨i7, t 33, t 35, t 38, rfl, rfl, rfl, ((o1.call hown).putRow 5 rfl (cs' := [t 33]))⟩
        · try simp (disch := first | omega | (simp only [ints_length, List.length_replicate, List.length_set]; done) | (simp only [ints_length, List.length_replicate, List.length_set]; omega)) only [Sall,evalOp,init,binE,binI,unE,convE,okNil,builtE,gv,TD.isAgg,resV,↓reduceIte,Nat.reduceEqDiff,reduceCtorEq,Nat.reduceAdd,Nat.reduceMul,Nat.reduceLeDiff,quietOp,blindOp,Int.reduceEq,Int.reduceLT,Int.reduceLE,Nat.reduceLT,ti2,ti3,ti4,ti45,ti46,ti38,ti25,ti30,ti22,ti32,ti24,ti95,ti172,ti169,ti165,ti166,ti65,ti143,ti87,ti110,ti56,ti101,ti5,ti159,ti62,ti161,ti51,ti57,ti9, awpT_nil, awpT_one, awpT_run_nil, awpT_run_cons, g0, hone]
          have oN : Ow H1 H1 [.no, .no, .no, .no] := ((Ow.refl o1.sc).addNo).addNo.addNo.addNo
          exact ⟨.inl rfl, (fun a ha => ⟨by simpa using ha, rfl⟩), rfl, rfl, rfl, rfl, rfl, rfl, (fun e => by cases e), oN⟩
      · rintro t H2 ⟨h2', h4, i7, rv, mv, pv, h7, h8, h9, o2⟩
        obtain ⟨ri, rl1, rl2, rfl, rrow⟩ := o2.get 2 rfl (by omega)
        have g7 := (o2.rowAt 5 rfl).1
        try simp (disch := first | omega | (simp only [ints_length, List.length_replicate, List.length_set]; done) | (simp only [ints_length, List.length_replicate, List.length_set]; omega)) only [Sall,evalOp,init,binE,binI,unE,convE,okNil,builtE,gv,TD.isAgg,resV,↓reduceIte,Nat.reduceEqDiff,reduceCtorEq,Nat.reduceAdd,Nat.reduceMul,Nat.reduceLeDiff,quietOp,blindOp,Int.reduceEq,Int.reduceLT,Int.reduceLE,Nat.reduceLT,ti2,ti3,ti4,ti45,ti46,ti38,ti25,ti30,ti22,ti32,ti24,ti95,ti172,ti169,ti165,ti166,ti65,ti143,ti87,ti110,ti56,ti101,ti5,ti159,ti62,ti161,ti51,ti57,ti9, h7, g7, builtE]
        rw [← plM_zero n M R] at o2
        refine awp_loop (fun z t H3 => ∃ i : Nat, z = n - i ∧ i ≤ n ∧ t 41 = .int .i64 i ∧ t 40 = .int .i64 n ∧ t 39 = .slice (some ⟨ri, 0, some 1⟩) n n ∧ t 2 = .pointer (some ⟨H.next, 0, none⟩) ∧ t 4 = .pointer (some ⟨H.next + 1, 0, none⟩) ∧ t 7 = .pointer (some ⟨i7, 0, none⟩) ∧ t 8 = mv ∧ t 9 = pv ∧
          Ow H H3 [.row H.next ⟨32, true, [.int .i64 n, v]⟩, .row (H.next + 1) ⟨46, true, ints (List.replicate 14 0)⟩, .sl 1 2 (.slice (some ⟨ri, 0, some 1⟩) n n) n (ints R), .sl2 (Value.int .i64) 38 2 mv M, .sl2 (Value.int .i64) 38 2 pv (plM n M R i 0), .row i7 ⟨38, true, [.slice (some ⟨ri, 0, some 1⟩) n n]⟩]) n ?_ ?_
        · refine ⟨0, by omega, by omega, ?_⟩
          try simp (disch := first | omega | (simp only [ints_length, List.length_replicate, List.length_set]; done) | (simp only [ints_length, List.length_replicate, List.length_set]; omega)) only [Sall,evalOp,init,binE,binI,unE,convE,okNil,builtE,gv,TD.isAgg,resV,↓reduceIte,Nat.reduceEqDiff,reduceCtorEq,Nat.reduceAdd,Nat.reduceMul,Nat.reduceLeDiff,quietOp,blindOp,Int.reduceEq,Int.reduceLT,Int.reduceLE,Nat.reduceLT,ti2,ti3,ti4,ti45,ti46,ti38,ti25,ti30,ti22,ti32,ti24,ti95,ti172,ti169,ti165,ti166,ti65,ti143,ti87,ti110,ti56,ti101,ti5,ti159,ti62,ti161,ti51,ti57,ti9, Int.natCast_zero, h2', h4, h7, h8, h9]
          exact o2
        · rintro z t H3 ⟨i, hz, hin, h41, h40, h39, h2', h4, h7, h8, h9, o3⟩
          have rrow3 := (o3.getV 2 rfl).2.2
          have g7 := (o3.rowAt 5 rfl).1
          have hRl : R.length = n := hperm.len
          try simp (disch := first | omega | (simp only [ints_length, List.length_replicate, List.length_set]; done) | (simp only [ints_length, List.length_replicate, List.length_set]; omega)) only [Sall,evalOp,init,binE,binI,unE,convE,okNil,builtE,gv,TD.isAgg,resV,↓reduceIte,Nat.reduceEqDiff,reduceCtorEq,Nat.reduceAdd,Nat.reduceMul,Nat.reduceLeDiff,quietOp,blindOp,Int.reduceEq,Int.reduceLT,Int.reduceLE,Nat.reduceLT,ti2,ti3,ti4,ti45,ti46,ti38,ti25,ti30,ti22,ti32,ti24,ti95,ti172,ti169,ti165,ti166,ti65,ti143,ti87,ti110,ti56,ti101,ti5,ti159,ti62,ti161,ti51,ti57,ti9, h41, h40]
          refine condC_dec (fun hh => ?_) (fun hh => ?_)
          · have k1 := ints_get? R i (by omega)
            have hri := hperm.rng i (by omega)
            try simp (disch := first | omega | (simp only [ints_length, List.length_replicate, List.length_set]; done) | (simp only [ints_length, List.length_replicate, List.length_set]; omega)) only [Sall,evalOp,init,binE,binI,unE,convE,okNil,builtE,gv,TD.isAgg,resV,↓reduceIte,Nat.reduceEqDiff,reduceCtorEq,Nat.reduceAdd,Nat.reduceMul,Nat.reduceLeDiff,quietOp,blindOp,Int.reduceEq,Int.reduceLT,Int.reduceLE,Nat.reduceLT,ti2,ti3,ti4,ti45,ti46,ti38,ti25,ti30,ti22,ti32,ti24,ti95,ti172,ti169,ti165,ti166,ti65,ti143,ti87,ti110,ti56,ti101,ti5,ti159,ti62,ti161,ti51,ti57,ti9, h41, h40, h39, rrow3, k1, h7, g7, builtE, hRl]
            (repeat refine And.intro (by omega) ?_)
            try simp (disch := first | omega | (simp only [ints_length, List.length_replicate, List.length_set]; done) | (simp only [ints_length, List.length_replicate, List.length_set]; omega)) only [Sall,evalOp,init,binE,binI,unE,convE,okNil,builtE,gv,TD.isAgg,resV,↓reduceIte,Nat.reduceEqDiff,reduceCtorEq,Nat.reduceAdd,Nat.reduceMul,Nat.reduceLeDiff,quietOp,blindOp,Int.reduceEq,Int.reduceLT,Int.reduceLE,Nat.reduceLT,ti2,ti3,ti4,ti45,ti46,ti38,ti25,ti30,ti22,ti32,ti24,ti95,ti172,ti169,ti165,ti166,ti65,ti143,ti87,ti110,ti56,ti101,ti5,ti159,ti62,ti161,ti51,ti57,ti9, h41, h40, h39, rrow3, k1, h7, g7, builtE, hRl]
            refine awp_loop (fun z t H4 => ∃ k : Nat, z = n - k ∧ k ≤ n ∧ t 48 = .int .i64 k ∧ t 47 = .int .i64 n ∧ t 46 = .slice (some ⟨ri, 0, some 1⟩) n n ∧ t 10 = .int .i64 i ∧ t 11 = .int .i64 (R.getD i 0) ∧ t 41 = .int .i64 i ∧ t 40 = .int .i64 n ∧ t 39 = .slice (some ⟨ri, 0, some 1⟩) n n ∧ t 2 = .pointer (some ⟨H.next, 0, none⟩) ∧ t 4 = .pointer (some ⟨H.next + 1, 0, none⟩) ∧ t 7 = .pointer (some ⟨i7, 0, none⟩) ∧ t 8 = mv ∧ t 9 = pv ∧
              Ow H H4 [.row H.next ⟨32, true, [.int .i64 n, v]⟩, .row (H.next + 1) ⟨46, true, ints (List.replicate 14 0)⟩, .sl 1 2 (.slice (some ⟨ri, 0, some 1⟩) n n) n (ints R), .sl2 (Value.int .i64) 38 2 mv M, .sl2 (Value.int .i64) 38 2 pv (plM n M R i k), .row i7 ⟨38, true, [.slice (some ⟨ri, 0, some 1⟩) n n]⟩]) n ?_ ?_
            · refine ⟨0, by omega, by omega, ?_⟩
              try simp (disch := first | omega | (simp only [ints_length, List.length_replicate, List.length_set]; done) | (simp only [ints_length, List.length_replicate, List.length_set]; omega)) only [Sall,evalOp,init,binE,binI,unE,convE,okNil,builtE,gv,TD.isAgg,resV,↓reduceIte,Nat.reduceEqDiff,reduceCtorEq,Nat.reduceAdd,Nat.reduceMul,Nat.reduceLeDiff,quietOp,blindOp,Int.reduceEq,Int.reduceLT,Int.reduceLE,Nat.reduceLT,ti2,ti3,ti4,ti45,ti46,ti38,ti25,ti30,ti22,ti32,ti24,ti95,ti172,ti169,ti165,ti166,ti65,ti143,ti87,ti110,ti56,ti101,ti5,ti159,ti62,ti161,ti51,ti57,ti9, Int.natCast_zero, h41, h40, h39, h2', h4, h7, h8, h9]
              exact o3
            · rintro z t H4 ⟨k, hz2, hkn, h48, h47, h46, h10, h11, h41, h40, h39, h2', h4, h7, h8, h9, o4⟩
              have rrow4 := (o4.getV 2 rfl).2.2
              try simp (disch := first | omega | (simp only [ints_length, List.length_replicate, List.length_set]; done) | (simp only [ints_length, List.length_replicate, List.length_set]; omega)) only [Sall,evalOp,init,binE,binI,unE,convE,okNil,builtE,gv,TD.isAgg,resV,↓reduceIte,Nat.reduceEqDiff,reduceCtorEq,Nat.reduceAdd,Nat.reduceMul,Nat.reduceLeDiff,quietOp,blindOp,Int.reduceEq,Int.reduceLT,Int.reduceLE,Nat.reduceLT,ti2,ti3,ti4,ti45,ti46,ti38,ti25,ti30,ti22,ti32,ti24,ti95,ti172,ti169,ti165,ti166,ti65,ti143,ti87,ti110,ti56,ti101,ti5,ti159,ti62,ti161,ti51,ti57,ti9, h48, h47]
              refine condC_dec (fun hh2 => ?_) (fun hh2 => ?_)
              · have hz5 : n - (k + 1) < z := by omega
                have hk5 : k + 1 ≤ n := by omega
                have k2 := ints_get? R k (by omega)
                have hrk := hperm.rng k (by omega)
                obtain ⟨mi, mvs, mx, _, _, hmv, mr, mvl, mx1, _, mq⟩ := o4.get2 3 rfl (j := (R.getD i 0).toNat) (by rw [hMl]; omega)
                rw [hMr (R.getD i 0).toNat (by omega)] at mq
                obtain ⟨mqi, _, _, _, rfl, mqr⟩ := mq (by omega)
                have mqr' : H4.row mqi = some ⟨2, true, ints (M.getD (R.getD i 0).toNat [])⟩ := mqr
                have k3 := ints_get? (M.getD (R.getD i 0).toNat []) (R.getD k 0).toNat (by rw [hMr (R.getD i 0).toNat (by omega)]; omega)
                have hpl := plM_length n M R i k
                have hplr := plM_rl (n := n) M R i k (a := i) (by omega)
                obtain ⟨pi, pvs, px, _, _, hpv, pr, pvl, px1, _, pq⟩ := o4.get2 4 rfl (j := i) (by omega)
                rw [hplr] at pq
                obtain ⟨pqi, _, _, _, rfl, pqr⟩ := pq (by omega)
                have pqr' : H4.row pqi = some ⟨2, true, ints ((plM n M R i k).getD i [])⟩ := pqr
                rw [hMl] at hmv
                rw [hpl] at hpv
                have hml3 := hMr (R.getD i 0).toNat (by omega)
                try simp (disch := first | omega | (simp only [ints_length, List.length_replicate, List.length_set]; done) | (simp only [ints_length, List.length_replicate, List.length_set]; omega)) only [Sall,evalOp,init,binE,binI,unE,convE,okNil,builtE,gv,TD.isAgg,resV,↓reduceIte,Nat.reduceEqDiff,reduceCtorEq,Nat.reduceAdd,Nat.reduceMul,Nat.reduceLeDiff,quietOp,blindOp,Int.reduceEq,Int.reduceLT,Int.reduceLE,Nat.reduceLT,ti2,ti3,ti4,ti45,ti46,ti38,ti25,ti30,ti22,ti32,ti24,ti95,ti172,ti169,ti165,ti166,ti65,ti143,ti87,ti110,ti56,ti101,ti5,ti159,ti62,ti161,ti51,ti57,ti9, h48, h47, h46, rrow4, k2]
                (repeat refine And.intro (by omega) ?_)
                try simp (disch := first | omega | (simp only [ints_length, List.length_replicate, List.length_set]; done) | (simp only [ints_length, List.length_replicate, List.length_set]; omega)) only [Sall,evalOp,init,binE,binI,unE,convE,okNil,builtE,gv,TD.isAgg,resV,↓reduceIte,Nat.reduceEqDiff,reduceCtorEq,Nat.reduceAdd,Nat.reduceMul,Nat.reduceLeDiff,quietOp,blindOp,Int.reduceEq,Int.reduceLT,Int.reduceLE,Nat.reduceLT,ti2,ti3,ti4,ti45,ti46,ti38,ti25,ti30,ti22,ti32,ti24,ti95,ti172,ti169,ti165,ti166,ti65,ti143,ti87,ti110,ti56,ti101,ti5,ti159,ti62,ti161,ti51,ti57,ti9, h48, h47, h46, rrow4, k2]
                refine draw_id (by kernel_rfl) (by kernel_rfl) ?_
                try simp (disch := first | omega | (simp only [ints_length, List.length_replicate, List.length_set]; done) | (simp only [ints_length, List.length_replicate, List.length_set]; omega)) only [Sall,evalOp,init,binE,binI,unE,convE,okNil,builtE,gv,TD.isAgg,resV,↓reduceIte,Nat.reduceEqDiff,reduceCtorEq,Nat.reduceAdd,Nat.reduceMul,Nat.reduceLeDiff,quietOp,blindOp,Int.reduceEq,Int.reduceLT,Int.reduceLE,Nat.reduceLT,ti2,ti3,ti4,ti45,ti46,ti38,ti25,ti30,ti22,ti32,ti24,ti95,ti172,ti169,ti165,ti166,ti65,ti143,ti87,ti110,ti56,ti101,ti5,ti159,ti62,ti161,ti51,ti57,ti9, h48, h10, h11, h8, h9, hmv, mr, mx1, mqr', k3, hpv, pr, px1, pqr', hplr, hml3, mvl, pvl, ints_set]
                (repeat refine And.intro (by omega) ?_)
                try simp (disch := first | omega | (simp only [ints_length, List.length_replicate, List.length_set]; done) | (simp only [ints_length, List.length_replicate, List.length_set]; omega)) only [Sall,evalOp,init,binE,binI,unE,convE,okNil,builtE,gv,TD.isAgg,resV,↓reduceIte,Nat.reduceEqDiff,reduceCtorEq,Nat.reduceAdd,Nat.reduceMul,Nat.reduceLeDiff,quietOp,blindOp,Int.reduceEq,Int.reduceLT,Int.reduceLE,Nat.reduceLT,ti2,ti3,ti4,ti45,ti46,ti38,ti25,ti30,ti22,ti32,ti24,ti95,ti172,ti169,ti165,ti166,ti65,ti143,ti87,ti110,ti56,ti101,ti5,ti159,ti62,ti161,ti51,ti57,ti9, h48, h47, h46, h10, h11, h8, h9, h41, h40, h39, h2', h4, h7, hmv, mr, mx1, mqr', k3, hpv, pr, px1, pqr', hplr, hml3, mvl, pvl, ints_set, w64]
                rw [hmv, hpv] at o4
                have o6 := o4.set2 4 rfl (j := i) (by omega) (l' := ((plM n M R i k).getD i []).set k ((M.getD (R.getD i 0).toNat []).getD (R.getD k 0).toNat 0)) (by simp) pr px1
                have hi1 : i < n := by omega
                have hk1 : k < n := by omega
                rw [plM_set M R hi1 hk1] at o6
                exact ⟨.inr (.inl (by kernel_rfl)), n - (k + 1), hz5, k + 1, rfl, hk5, rfl, o6⟩
              · have hke : k = n := by omega
                subst hke
                try simp (disch := first | omega | (simp only [ints_length, List.length_replicate, List.length_set]; done) | (simp only [ints_length, List.length_replicate, List.length_set]; omega)) only [Sall,evalOp,init,binE,binI,unE,convE,okNil,builtE,gv,TD.isAgg,resV,↓reduceIte,Nat.reduceEqDiff,reduceCtorEq,Nat.reduceAdd,Nat.reduceMul,Nat.reduceLeDiff,quietOp,blindOp,Int.reduceEq,Int.reduceLT,Int.reduceLE,Nat.reduceLT,ti2,ti3,ti4,ti45,ti46,ti38,ti25,ti30,ti22,ti32,ti24,ti95,ti172,ti169,ti165,ti166,ti65,ti143,ti87,ti110,ti56,ti101,ti5,ti159,ti62,ti161,ti51,ti57,ti9, h41, h40, h39, h2', h4, h7, h8, h9, w64]
                rw [plM_next] at o4
                exact ⟨k - (i + 1), by omega, i + 1, rfl, by omega, by omega, o4⟩
          · have hie : i = n := by omega
            subst hie
            have b3 := (o3.rowAt 0 rfl).2.2
            have g03 := (o3.rowAt 0 rfl).1
            have ne1 : ¬ H.next = H3.next + 1 := by omega
            have ne2 : ¬ H.next = H3.next := by omega
            have hcap : ∀ v ∈ [Value.pointer (some ⟨H.next, 0, none⟩), .pointer (some ⟨i7, 0, none⟩), .pointer (some ⟨H3.next, 0, none⟩), .pointer (some ⟨H3.next + 1, 0, none⟩)], v.oneCell' = true := by simp [Value.oneCell']
            try simp (disch := first | omega | (simp only [ints_length, List.length_replicate, List.length_set]; done) | (simp only [ints_length, List.length_replicate, List.length_set]; omega)) only [Sall,evalOp,init,binE,binI,unE,convE,okNil,builtE,gv,TD.isAgg,resV,↓reduceIte,Nat.reduceEqDiff,reduceCtorEq,Nat.reduceAdd,Nat.reduceMul,Nat.reduceLeDiff,quietOp,blindOp,Int.reduceEq,Int.reduceLT,Int.reduceLE,Nat.reduceLT,ti2,ti3,ti4,ti45,ti46,ti38,ti25,ti30,ti22,ti32,ti24,ti95,ti172,ti169,ti165,ti166,ti65,ti143,ti87,ti110,ti56,ti101,ti5,ti159,ti62,ti161,ti51,ti57,ti9, h2', h4, h7, h8, h9, g03, ne1, ne2]
            refine ⟨hcap, ?_⟩
            have o4 := (((o3.push ⟨46, true, ints (List.replicate 14 0)⟩).push ⟨4, true, [.bool false]⟩).putRow 6 rfl (cs' := ints (List.replicate 14 0))).putRow 7 rfl (cs' := [.bool false])
            obtain ⟨H6, e6⟩ : ∃ H6, H6 = (((H3.push ⟨46, true, ints (List.replicate 14 0)⟩).push ⟨4, true, [.bool false]⟩).setCells H3.next (ints (List.replicate 14 0))).setCells (H3.next + 1) [.bool false] := ⟨_, rfl⟩
            have n6 : H6.next = H3.next + 2 := by rw [e6]; rfl
            have o5 : Ow H H6 [.row H.next ⟨32, true, [.int .i64 i, v]⟩, .row (H.next + 1) ⟨46, true, ints (List.replicate 14 0)⟩, .sl 1 2 (.slice (some ⟨ri, 0, some 1⟩) i i) i (ints R), .sl2 (Value.int .i64) 38 2 mv M, .sl2 (Value.int .i64) 38 2 pv (plM i M R i 0), .row i7 ⟨38, true, [.slice (some ⟨ri, 0, some 1⟩) i i]⟩, .row H3.next ⟨46, true, ints (List.replicate 14 0)⟩, .row (H3.next + 1) ⟨4, true, [.bool false]⟩] := by rw [e6]; exact o4
            rw [← e6]
            clear e6 o4
            have q0 := o5.rowAt 0 rfl
            have q2 := o5.getV 2 rfl
            have q5 := o5.rowAt 5 rfl
            have q6 := o5.rowAt 6 rfl
            have q7 := o5.rowAt 7 rfl
            have d06 := o5.ne (j := 0) (k := 6) rfl rfl (by omega) (fun S h => h.1) (fun S h => h.1)
            have d07 := o5.ne (j := 0) (k := 7) rfl rfl (by omega) (fun S h => h.1) (fun S h => h.1)
            have d16 := o5.ne (j := 1) (k := 6) rfl rfl (by omega) (fun S h => h.1) (fun S h => h.1)
            have d17 := o5.ne (j := 1) (k := 7) rfl rfl (by omega) (fun S h => h.1) (fun S h => h.1)
            have d56 := o5.ne (j := 5) (k := 6) rfl rfl (by omega) (fun S h => h.1) (fun S h => h.1)
            have d57 := o5.ne (j := 5) (k := 7) rfl rfl (by omega) (fun S h => h.1) (fun S h => h.1)
            have d26 := o5.ne (j := 2) (k := 6) rfl rfl (by omega) (fun S h => sl_mem S h) (fun S h => h.1)
            have d27 := o5.ne (j := 2) (k := 7) rfl rfl (by omega) (fun S h => sl_mem S h) (fun S h => h.1)
            have hpone := (o5.rd2 4 rfl).one
            have hC : CallOk i (plM i M R i 0) pv 102 [.pointer (some ⟨H.next, 0, none⟩), .pointer (some ⟨i7, 0, none⟩), .pointer (some ⟨H3.next, 0, none⟩), .pointer (some ⟨H3.next + 1, 0, none⟩)] H6.next (nxInv i R H3.next (H3.next + 1) H6) (fun (_ : Option (List Int)) r => (false, some r)) := by
              refine ⟨by omega, plM_length _ _ _ _ _, fun a ha => plM_rl _ _ _ _ ha, fun s Ha Hb hI hs => ⟨fun j j1 j2 j3 => by rw [hs j j1, hI.1 j j1 j2 j3], by rw [hs _ q6.2.2]; exact hI.2.1, by rw [hs _ q7.2.2]; exact hI.2.2⟩, fun s Ha hI => rd2_but o5 4 6 7 rfl rfl rfl (by omega) (by omega) hI.1, fun s r Ha hI hb hsc hr => ?_⟩
              obtain ⟨hI1, hI2, hI3⟩ := hI
              have rr : Rd 1 Ha (.slice (some ⟨ri, 0, some 1⟩) i i) i R := Fr.rd (ty := 2) (lo := 0) (hi := ri + 1) ⟨by omega, .inr ⟨ri, Nat.zero_le _, Nat.lt_succ_self _, rfl, by rw [hI1 ri q2.2.1 d26 d27]; exact q2.2.2⟩⟩
              refine (nextIn_c i v _ r R _ _ H.next i7 H3.next (H3.next + 1) Ha (by omega) hperm hr hone rr (outS_length i R s) (by rw [hI1 _ q0.2.2 d06 d07]; exact q0.1) (by rw [hI1 _ q5.2.2 d56 d57]; exact q5.1) hI2 hI3 (by omega)).mono ?_
              rintro w Hb ⟨w1, w2, w3, w4, w5, w6⟩
              refine ⟨w1, ⟨fun j j1 j2 j3 => by rw [w4 j (by omega) j2 j3, hI1 j j1 j2 j3], w5, w6⟩, w2, w3, fun j j1 j2 => w4 j j2 (by omega) (by omega)⟩
            refine (rounds_c none H6 hC ⟨fun _ _ _ _ => rfl, q6.1, q7.1⟩ hpone).fin ?_
            have hls : matF i (mtM (plM i M R i 0)) (i + 1) (freeL i) 0 = Q := by
              rw [hnq]
              exact matF_congr (fun a b ha hb => by unfold mtM; rw [plM_get M R ha hb]) _ _ _ (Nat.zero_le _)
            rw [hls, fold_head]
            rintro H7 ⟨⟨hI1, hI2, hI3⟩, hn7, hs7⟩
            have r1 : H7.row (H.next + 1) = some ⟨46, true, ints (List.replicate 14 0)⟩ := by
              have q1 := o5.rowAt 1 rfl
              rw [hI1 _ q1.2.2 d16 d17]; exact q1.1
            have hup : Up H.next H H7 := ⟨by omega, fun j hj => by rw [hI1 j (by omega) (by omega) (by omega), o5.low j hj]⟩
            have hlen := headR_length i R Q
            have hout : outS i R Q.head? = headR i R Q := by unfold headR; cases Q.head? <;> rfl
            have hB0 : Q.head?.isSome = headB Q := rfl
            rw [hout] at hI2
            rw [hB0] at hI3
            have hz2 := hzl Q
            rw [hr0]
            generalize headR i R Q = hdR at hI2 hlen hz2 ⊢
            obtain hB | hB : headB Q = true ∨ headB Q = false := by cases headB Q <;> simp
            · rw [hB] at hI3
              rw [if_pos hB] at hn0
              rw [hn0]
              refine Holds.mp ?_
              try simp (disch := first | omega | (simp only [ints_length, List.length_replicate, List.length_set]; done) | (simp only [ints_length, List.length_replicate, List.length_set]; omega)) only [Sall,evalOp,init,binE,binI,unE,convE,okNil,builtE,gv,TD.isAgg,resV,↓reduceIte,Nat.reduceEqDiff,reduceCtorEq,Nat.reduceAdd,Nat.reduceMul,Nat.reduceLeDiff,quietOp,blindOp,Int.reduceEq,Int.reduceLT,Int.reduceLE,Nat.reduceLT,ti2,ti3,ti4,ti45,ti46,ti38,ti25,ti30,ti22,ti32,ti24,ti95,ti172,ti169,ti165,ti166,ti65,ti143,ti87,ti110,ti56,ti101,ti5,ti159,ti62,ti161,ti51,ti57,ti9, h4, hI3, hI2, r1, hlen]
              exact hup.set (by omega) _
            · rw [hB] at hI3
              rw [if_neg (by rw [hB]; simp)] at hn0
              have hz3 := hz2 hB
              rw [hn0]
              rw [hz3]
              refine Holds.mp ?_
              try simp (disch := first | omega | (simp only [ints_length, List.length_replicate, List.length_set]; done) | (simp only [ints_length, List.length_replicate, List.length_set]; omega)) only [Sall,evalOp,init,binE,binI,unE,convE,okNil,builtE,gv,TD.isAgg,resV,↓reduceIte,Nat.reduceEqDiff,reduceCtorEq,Nat.reduceAdd,Nat.reduceMul,Nat.reduceLeDiff,quietOp,blindOp,Int.reduceEq,Int.reduceLT,Int.reduceLE,Nat.reduceLT,ti2,ti3,ti4,ti45,ti46,ti38,ti25,ti30,ti22,ti32,ti24,ti95,ti172,ti169,ti165,ti166,ti65,ti143,ti87,ti110,ti56,ti101,ti5,ti159,ti62,ti161,ti51,ti57,ti9, h4, hI3, r1]
              exact hup.set (by omega) _
  · have ec := codeS_no hok
    have ec1 : ¬ codeS q k l (resB q.toNat k l ll) = 0 := bne_iff_ne.1 ec
    have ec2 : (codeS q k l (resB q.toNat k l ll) == 0) = false := beq_eq_false_iff_ne.2 ec1
    rw [if_neg ec1] at hn0 hr0
    rw [hn0, hr0]
    try simp (disch := first | omega | (simp only [ints_length, List.length_replicate, List.length_set]; done) | (simp only [ints_length, List.length_replicate, List.length_set]; omega)) only [Sall,evalOp,init,binE,binI,unE,convE,okNil,builtE,gv,TD.isAgg,resV,↓reduceIte,Nat.reduceEqDiff,reduceCtorEq,Nat.reduceAdd,Nat.reduceMul,Nat.reduceLeDiff,quietOp,blindOp,Int.reduceEq,Int.reduceLT,Int.reduceLE,Nat.reduceLT,ti2,ti3,ti4,ti45,ti46,ti38,ti25,ti30,ti22,ti32,ti24,ti95,ti172,ti169,ti165,ti166,ti65,ti143,ti87,ti110,ti56,ti101,ti5,ti159,ti62,ti161,ti51,ti57,ti9, ec, ec2, g0, g1]
    exact (o1.putRow 1 rfl (cs' := ints (List.replicate 14 0))).up
end Go.Proofs.Ytgkmdfjjlghecaa.A
end

section
set_option linter.unusedSimpArgs false
set_option linter.unusedVariables false
set_option maxRecDepth 100000
namespace Go.Proofs.Ytgkmdfjjlghecaa.A
open Go Go.Abs Go.RowKit

theorem eqRound_c (l : List Int) (hl : l.length = 14) (H : AH) : ACalls Try.prog 28 [.agg (ints l).toArray, .agg (ints l).toArray] H (is (.bool true) H) := by
  refine acalls_up rfl (acalls_of_awp [.tmp 4] Try.func28 (by kernel_rfl) rfl rfl (Nat.le_of_ble_eq_true rfl) (by kernel_rfl) ?_)
  try simp (disch := first | omega | (simp only [ints_length, List.length_replicate]; done) | (simp only [ints_length, List.length_replicate]; omega)) only [Sall,evalOp,init,binE,binI,unE,convE,okNil,builtE,gv,TD.isAgg,resV,↓reduceIte,Nat.reduceEqDiff,reduceCtorEq,Nat.reduceAdd,Nat.reduceMul,Nat.reduceLeDiff,quietOp,blindOp,Int.reduceEq,Int.reduceLT,Int.reduceLE,Nat.reduceLT,ti2,ti3,ti4,ti45,ti46,ti38,ti25,ti30,ti22,ti32,ti24,ti95,ti172,ti169,ti165,ti166,ti65,ti143,ti87, true_and]
  refine awp_loop (fun m t H' => ∃ a : Int, m = (14 - a).toNat ∧ 0 ≤ a ∧ a ≤ 14 ∧ t 5 = .int .i64 a ∧ t 2 = .pointer (some ⟨H.next, 0, none⟩) ∧ t 3 = .pointer (some ⟨H.next + 1, 0, none⟩) ∧ Up H.next H H' ∧
    H'.row H.next = some ⟨46, true, ints l⟩ ∧ H'.row (H.next + 1) = some ⟨46, true, ints l⟩) 14 ?_ ?_
  · refine ⟨0, by omega, by omega, by omega, ?_⟩
    try simp (disch := first | omega | (simp only [ints_length, List.length_replicate]; done) | (simp only [ints_length, List.length_replicate]; omega)) only [Sall,evalOp,init,binE,binI,unE,convE,okNil,builtE,gv,TD.isAgg,resV,↓reduceIte,Nat.reduceEqDiff,reduceCtorEq,Nat.reduceAdd,Nat.reduceMul,Nat.reduceLeDiff,quietOp,blindOp,Int.reduceEq,Int.reduceLT,Int.reduceLE,Nat.reduceLT,ti2,ti3,ti4,ti45,ti46,ti38,ti25,ti30,ti22,ti32,ti24,ti95,ti172,ti169,ti165,ti166,ti65,ti143,ti87, true_and]
    exact ((Up.refl _ H).push (by omega) _).push (Nat.le_succ _) _
  · rintro m t H' ⟨a, hm, h0, h14, h5, h2, h3, hup, hr0, hr1⟩
    try simp (disch := first | omega | (simp only [ints_length, List.length_replicate]; done) | (simp only [ints_length, List.length_replicate]; omega)) only [Sall,evalOp,init,binE,binI,unE,convE,okNil,builtE,gv,TD.isAgg,resV,↓reduceIte,Nat.reduceEqDiff,reduceCtorEq,Nat.reduceAdd,Nat.reduceMul,Nat.reduceLeDiff,quietOp,blindOp,Int.reduceEq,Int.reduceLT,Int.reduceLE,Nat.reduceLT,ti2,ti3,ti4,ti45,ti46,ti38,ti25,ti30,ti22,ti32,ti24,ti95,ti172,ti169,ti165,ti166,ti65,ti143,ti87, h5]
    refine condC_dec (fun h => ?_) (fun h => ?_)
    · skip
      try simp (disch := first | omega | (simp only [ints_length, List.length_replicate]; done) | (simp only [ints_length, List.length_replicate]; omega)) only [Sall,evalOp,init,binE,binI,unE,convE,okNil,builtE,gv,TD.isAgg,resV,↓reduceIte,Nat.reduceEqDiff,reduceCtorEq,Nat.reduceAdd,Nat.reduceMul,Nat.reduceLeDiff,quietOp,blindOp,Int.reduceEq,Int.reduceLT,Int.reduceLE,Nat.reduceLT,ti2,ti3,ti4,ti45,ti46,ti38,ti25,ti30,ti22,ti32,ti24,ti95,ti172,ti169,ti165,ti166,ti65,ti143,ti87, h5]
      refine draw_id (by kernel_rfl) (by kernel_rfl) ?_
      try simp (disch := first | omega | (simp only [ints_length, List.length_replicate]; done) | (simp only [ints_length, List.length_replicate]; omega)) only [Sall,evalOp,init,binE,binI,unE,convE,okNil,builtE,gv,TD.isAgg,resV,↓reduceIte,Nat.reduceEqDiff,reduceCtorEq,Nat.reduceAdd,Nat.reduceMul,Nat.reduceLeDiff,quietOp,blindOp,Int.reduceEq,Int.reduceLT,Int.reduceLE,Nat.reduceLT,ti2,ti3,ti4,ti45,ti46,ti38,ti25,ti30,ti22,ti32,ti24,ti95,ti172,ti169,ti165,ti166,ti65,ti143,ti87, h5, h2, h3, hr0, hr1, ints_get?, bne_self_eq_false, w64]
      refine ⟨⟨h0, by omega⟩, ⟨h0, by omega⟩, (14 - (a + 1)).toNat, by omega, a + 1, rfl, by omega, by omega, rfl, hup⟩
    · try simp (disch := first | omega | (simp only [ints_length, List.length_replicate]; done) | (simp only [ints_length, List.length_replicate]; omega)) only [Sall,evalOp,init,binE,binI,unE,convE,okNil,builtE,gv,TD.isAgg,resV,↓reduceIte,Nat.reduceEqDiff,reduceCtorEq,Nat.reduceAdd,Nat.reduceMul,Nat.reduceLeDiff,quietOp,blindOp,Int.reduceEq,Int.reduceLT,Int.reduceLE,Nat.reduceLT,ti2,ti3,ti4,ti45,ti46,ti38,ti25,ti30,ti22,ti32,ti24,ti95,ti172,ti169,ti165,ti166,ti65,ti143,ti87, true_and]
      exact hup

theorem eqRoundS_c (va vb : Value) (n : Nat) (l : List Int) (hn : n ≤ 4294967296) (H : AH) (ha : Rd 14 H va n l) (hb : Rd 14 H vb n l) : ACalls Try.prog 91 [va, vb] H (is (.bool true) H) := by
  refine acalls_up rfl (acalls_of_awp [.tmp 4] Try.func91 (by kernel_rfl) rfl rfl (Nat.le_of_ble_eq_true rfl) (by kernel_rfl) ?_)
  try simp (disch := first | omega | (simp only [ints_length, List.length_replicate]; done) | (simp only [ints_length, List.length_replicate]; omega)) only [Sall,evalOp,init,binE,binI,unE,convE,okNil,builtE,gv,TD.isAgg,resV,↓reduceIte,Nat.reduceEqDiff,reduceCtorEq,Nat.reduceAdd,Nat.reduceMul,Nat.reduceLeDiff,quietOp,blindOp,Int.reduceEq,Int.reduceLT,Int.reduceLE,Nat.reduceLT,ti2,ti3,ti4,ti45,ti46,ti38,ti25,ti30,ti22,ti32,ti24,ti95,ti172,ti169,ti165,ti166,ti65,ti143,ti87, builtE, ha.len, hb.len, bne_self_eq_false]
  refine awp_loop (fun m t H' => ∃ a : Int, m = (n - a).toNat ∧ 0 ≤ a ∧ a ≤ n ∧ t 5 = .int .i64 a ∧ t 0 = va ∧ t 1 = vb ∧ H' = H) n ?_ ?_
  · refine ⟨0, by omega, by omega, by omega, ?_⟩
    try simp (disch := first | omega | (simp only [ints_length, List.length_replicate]; done) | (simp only [ints_length, List.length_replicate]; omega)) only [Sall,evalOp,init,binE,binI,unE,convE,okNil,builtE,gv,TD.isAgg,resV,↓reduceIte,Nat.reduceEqDiff,reduceCtorEq,Nat.reduceAdd,Nat.reduceMul,Nat.reduceLeDiff,quietOp,blindOp,Int.reduceEq,Int.reduceLT,Int.reduceLE,Nat.reduceLT,ti2,ti3,ti4,ti45,ti46,ti38,ti25,ti30,ti22,ti32,ti24,ti95,ti172,ti169,ti165,ti166,ti65,ti143,ti87, true_and]
  · rintro m t H' ⟨a, hm, h0, h14, h5, h2, h3, rfl⟩
    try simp (disch := first | omega | (simp only [ints_length, List.length_replicate]; done) | (simp only [ints_length, List.length_replicate]; omega)) only [Sall,evalOp,init,binE,binI,unE,convE,okNil,builtE,gv,TD.isAgg,resV,↓reduceIte,Nat.reduceEqDiff,reduceCtorEq,Nat.reduceAdd,Nat.reduceMul,Nat.reduceLeDiff,quietOp,blindOp,Int.reduceEq,Int.reduceLT,Int.reduceLE,Nat.reduceLT,ti2,ti3,ti4,ti45,ti46,ti38,ti25,ti30,ti22,ti32,ti24,ti95,ti172,ti169,ti165,ti166,ti65,ti143,ti87, h5, h2, builtE, ha.len]
    refine condC_dec (fun h => ?_) (fun h => ?_)
    · obtain ⟨i, o, u, c, r, rfl, hr, hc, hs, hg⟩ := ha.get (by omega)
      obtain ⟨i', o', u', c', r', rfl, hr', hc', hs', hg'⟩ := hb.get (by omega)
      try simp (disch := first | omega | (simp only [ints_length, List.length_replicate]; done) | (simp only [ints_length, List.length_replicate]; omega)) only [Sall,evalOp,init,binE,binI,unE,convE,okNil,builtE,gv,TD.isAgg,resV,↓reduceIte,Nat.reduceEqDiff,reduceCtorEq,Nat.reduceAdd,Nat.reduceMul,Nat.reduceLeDiff,quietOp,blindOp,Int.reduceEq,Int.reduceLT,Int.reduceLE,Nat.reduceLT,ti2,ti3,ti4,ti45,ti46,ti38,ti25,ti30,ti22,ti32,ti24,ti95,ti172,ti169,ti165,ti166,ti65,ti143,ti87, h5]
      refine draw_id (by kernel_rfl) (by kernel_rfl) ?_
      try simp (disch := first | omega | (simp only [ints_length, List.length_replicate]; done) | (simp only [ints_length, List.length_replicate]; omega)) only [Sall,evalOp,init,binE,binI,unE,convE,okNil,builtE,gv,TD.isAgg,resV,↓reduceIte,Nat.reduceEqDiff,reduceCtorEq,Nat.reduceAdd,Nat.reduceMul,Nat.reduceLeDiff,quietOp,blindOp,Int.reduceEq,Int.reduceLT,Int.reduceLE,Nat.reduceLT,ti2,ti3,ti4,ti45,ti46,ti38,ti25,ti30,ti22,ti32,ti24,ti95,ti172,ti169,ti165,ti166,ti65,ti143,ti87, h5, h2, h3, hr, hr', hg, hg']
      refine ⟨⟨h0, h⟩, by omega, ⟨h0, h⟩, by omega, (eqRound_c _ ?_ H').to ⟨.inr (.inr (LE.refl _)), ?_⟩⟩
      · rw [List.length_take, List.length_drop, ha.1]; omega
      · try simp (disch := first | omega | (simp only [ints_length, List.length_replicate]; done) | (simp only [ints_length, List.length_replicate]; omega)) only [Sall,evalOp,init,binE,binI,unE,convE,okNil,builtE,gv,TD.isAgg,resV,↓reduceIte,Nat.reduceEqDiff,reduceCtorEq,Nat.reduceAdd,Nat.reduceMul,Nat.reduceLeDiff,quietOp,blindOp,Int.reduceEq,Int.reduceLT,Int.reduceLE,Nat.reduceLT,ti2,ti3,ti4,ti45,ti46,ti38,ti25,ti30,ti22,ti32,ti24,ti95,ti172,ti169,ti165,ti166,ti65,ti143,ti87, Bool.not_true, w64, h5, h2, h3]
        refine ⟨(n - (a + 1)).toNat, by omega, a + 1, rfl, by omega, by omega, rfl⟩
    · try simp (disch := first | omega | (simp only [ints_length, List.length_replicate]; done) | (simp only [ints_length, List.length_replicate]; omega)) only [Sall,evalOp,init,binE,binI,unE,convE,okNil,builtE,gv,TD.isAgg,resV,↓reduceIte,Nat.reduceEqDiff,reduceCtorEq,Nat.reduceAdd,Nat.reduceMul,Nat.reduceLeDiff,quietOp,blindOp,Int.reduceEq,Int.reduceLT,Int.reduceLE,Nat.reduceLT,ti2,ti3,ti4,ti45,ti46,ti38,ti25,ti30,ti22,ti32,ti24,ti95,ti172,ti169,ti165,ti166,ti65,ti143,ti87, true_and]
      exact Up.refl _ _

/-- A schedule as it is handed on: its teams and its rounds. -/
def schedV (n : Int) (v : Value) : Value := .agg #[.int .i64 n, v]

theorem eqSchedule_c (va vb : Value) (q : Int) (n : Nat) (l : List Int) (hn : n ≤ 4294967296) (H : AH) (ha : Rd 14 H va n l) (hb : Rd 14 H vb n l) (h1 : va.oneCell' = true) (h2 : vb.oneCell' = true) :
    ACalls Try.prog 17 [.agg #[.int .i64 q, va], .agg #[.int .i64 q, vb]] H (is (.bool true) H) := by
  refine ACalls.wf (by kernel_rfl) fun hs => acalls_up rfl (acalls_of_awp [.tmp 4] Try.func17 (by kernel_rfl) rfl rfl (Nat.le_of_ble_eq_true rfl) (by kernel_rfl) ?_)
  try simp (disch := first | omega | (simp only [ints_length, List.length_replicate]; done) | (simp only [ints_length, List.length_replicate]; omega)) only [Sall,evalOp,init,binE,binI,unE,convE,okNil,builtE,gv,TD.isAgg,resV,↓reduceIte,Nat.reduceEqDiff,reduceCtorEq,Nat.reduceAdd,Nat.reduceMul,Nat.reduceLeDiff,quietOp,blindOp,Int.reduceEq,Int.reduceLT,Int.reduceLE,Nat.reduceLT,ti2,ti3,ti4,ti45,ti46,ti38,ti25,ti30,ti22,ti32,ti24,ti95,ti172,ti169,ti165,ti166,ti65,ti143,ti87, bne_self_eq_false]
  have up : Up H.next H ((H.push ⟨32, true, [.int .i64 q, va]⟩).push ⟨32, true, [.int .i64 q, vb]⟩) := ((Up.refl _ H).push (Nat.le_refl _) _).push (Nat.le_succ _) _
  refine (eqRoundS_c va vb n l hn _ (ha.same (up.le hs).row) (hb.same (up.le hs).row)).to ?_
  try simp (disch := first | omega | (simp only [ints_length, List.length_replicate]; done) | (simp only [ints_length, List.length_replicate]; omega)) only [Sall,evalOp,init,binE,binI,unE,convE,okNil,builtE,gv,TD.isAgg,resV,↓reduceIte,Nat.reduceEqDiff,reduceCtorEq,Nat.reduceAdd,Nat.reduceMul,Nat.reduceLeDiff,quietOp,blindOp,Int.reduceEq,Int.reduceLT,Int.reduceLE,Nat.reduceLT,ti2,ti3,ti4,ti45,ti46,ti38,ti25,ti30,ti22,ti32,ti24,ti95,ti172,ti169,ti165,ti166,ti65,ti143,ti87, Bool.not_true]
  exact up

/-! ### Marks -/
theorem markRoundS_c (ty lo hi : Nat) (v : Value) (n : Nat) (l : List Int) (k0 : Int) (hk : 0 ≤ k0 ∧ k0 ≤ 4294967296) (hn : n ≤ 4294967296) (H : AH) (hv : Fr 14 ty lo hi H v n l) :
    ACalls Try.prog 93 [v, .int .i64 k0] H (fun r H' => r = .int .i64 (k0 + n * 14) ∧ H.next ≤ H'.next ∧ (∀ i, ¬(lo ≤ i ∧ i < hi) → i < H.next → H'.row i = H.row i) ∧ Fr 14 ty lo hi H' v n (seqL k0 (n * 14))) := by
  refine acalls_of_awp [.tmp 4] Try.func93 (by kernel_rfl) rfl rfl (Nat.le_of_ble_eq_true rfl) (by kernel_rfl) ?_
  try simp (disch := first | omega | (simp only [ints_length, List.length_replicate]; done) | (simp only [ints_length, List.length_replicate]; omega)) only [Sall,evalOp,init,binE,binI,unE,convE,okNil,builtE,gv,TD.isAgg,resV,↓reduceIte,Nat.reduceEqDiff,reduceCtorEq,Nat.reduceAdd,Nat.reduceMul,Nat.reduceLeDiff,quietOp,blindOp,Int.reduceEq,Int.reduceLT,Int.reduceLE,Nat.reduceLT,ti2,ti3,ti4,ti45,ti46,ti38,ti25,ti30,ti22,ti32,ti24,ti95,ti172,ti169,ti165,ti166,ti65,ti143,ti87, true_and]
  refine awp_loop (fun m t H' => ∃ a : Nat, m = n - a ∧ a ≤ n ∧ t 5 = .int .i64 a ∧ t 1 = .int .i64 (k0 + a * 14) ∧ t 0 = v ∧ H'.next = H.next ∧ (∀ i, ¬(lo ≤ i ∧ i < hi) → H'.row i = H.row i) ∧ Fr 14 ty lo hi H' v n (markL k0 l (a * 14))) n ?_ ?_
  · refine ⟨0, by omega, by omega, ?_⟩
    try simp (disch := first | omega | (simp only [ints_length, List.length_replicate]; done) | (simp only [ints_length, List.length_replicate]; omega)) only [Sall,evalOp,init,binE,binI,unE,convE,okNil,builtE,gv,TD.isAgg,resV,↓reduceIte,Nat.reduceEqDiff,reduceCtorEq,Nat.reduceAdd,Nat.reduceMul,Nat.reduceLeDiff,quietOp,blindOp,Int.reduceEq,Int.reduceLT,Int.reduceLE,Nat.reduceLT,ti2,ti3,ti4,ti45,ti46,ti38,ti25,ti30,ti22,ti32,ti24,ti95,ti172,ti169,ti165,ti166,ti65,ti143,ti87, Nat.zero_mul, markL_zero, Int.natCast_zero]
    exact ⟨by omega, hv⟩
  · rintro m t H' ⟨a, hm, h14, h5, h1, h0, hnx, hsm, hfr⟩
    try simp (disch := first | omega | (simp only [ints_length, List.length_replicate]; done) | (simp only [ints_length, List.length_replicate]; omega)) only [Sall,evalOp,init,binE,binI,unE,convE,okNil,builtE,gv,TD.isAgg,resV,↓reduceIte,Nat.reduceEqDiff,reduceCtorEq,Nat.reduceAdd,Nat.reduceMul,Nat.reduceLeDiff,quietOp,blindOp,Int.reduceEq,Int.reduceLT,Int.reduceLE,Nat.reduceLT,ti2,ti3,ti4,ti45,ti46,ti38,ti25,ti30,ti22,ti32,ti24,ti95,ti172,ti169,ti165,ti166,ti65,ti143,ti87, h5, h1, h0, builtE, hfr.rd.len]
    refine condC_dec (fun h => ?_) (fun h => ?_)
    · try simp (disch := first | omega | (simp only [ints_length, List.length_replicate]; done) | (simp only [ints_length, List.length_replicate]; omega)) only [Sall,evalOp,init,binE,binI,unE,convE,okNil,builtE,gv,TD.isAgg,resV,↓reduceIte,Nat.reduceEqDiff,reduceCtorEq,Nat.reduceAdd,Nat.reduceMul,Nat.reduceLeDiff,quietOp,blindOp,Int.reduceEq,Int.reduceLT,Int.reduceLE,Nat.reduceLT,ti2,ti3,ti4,ti45,ti46,ti38,ti25,ti30,ti22,ti32,ti24,ti95,ti172,ti169,ti165,ti166,ti65,ti143,ti87, h5, h1, h0]
      obtain ⟨i, hi1, hi2, rfl, hr⟩ := hfr.get (by omega)
      have hl := hv.1
      refine awp_loop (fun m' t H' => ∃ b : Nat, m' = 14 - b ∧ b ≤ 14 ∧ t 6 = .int .i64 b ∧ t 5 = .int .i64 a ∧ t 1 = .int .i64 (k0 + a * 14 + b) ∧ t 0 = .slice (some ⟨i, 0, some 14⟩) n n ∧ H'.next = H.next ∧ (∀ i, ¬(lo ≤ i ∧ i < hi) → H'.row i = H.row i) ∧
        H'.row i = some ⟨ty, true, ints (markL k0 l (a * 14 + b))⟩) 14 ?_ ?_
      · refine ⟨0, by omega, by omega, ?_⟩
        try simp (disch := first | omega | (simp only [ints_length, List.length_replicate]; done) | (simp only [ints_length, List.length_replicate]; omega)) only [Sall,evalOp,init,binE,binI,unE,convE,okNil,builtE,gv,TD.isAgg,resV,↓reduceIte,Nat.reduceEqDiff,reduceCtorEq,Nat.reduceAdd,Nat.reduceMul,Nat.reduceLeDiff,quietOp,blindOp,Int.reduceEq,Int.reduceLT,Int.reduceLE,Nat.reduceLT,ti2,ti3,ti4,ti45,ti46,ti38,ti25,ti30,ti22,ti32,ti24,ti95,ti172,ti169,ti165,ti166,ti65,ti143,ti87, h5, h1, h0, Int.natCast_zero, Nat.add_zero, hr]
        and_intros <;> first | omega | assumption
      · rintro m' t H' ⟨b, hm', hb14, h6, h5, h1, h0, hnx, hsm, hr⟩
        try simp (disch := first | omega | (simp only [ints_length, List.length_replicate]; done) | (simp only [ints_length, List.length_replicate]; omega)) only [Sall,evalOp,init,binE,binI,unE,convE,okNil,builtE,gv,TD.isAgg,resV,↓reduceIte,Nat.reduceEqDiff,reduceCtorEq,Nat.reduceAdd,Nat.reduceMul,Nat.reduceLeDiff,quietOp,blindOp,Int.reduceEq,Int.reduceLT,Int.reduceLE,Nat.reduceLT,ti2,ti3,ti4,ti45,ti46,ti38,ti25,ti30,ti22,ti32,ti24,ti95,ti172,ti169,ti165,ti166,ti65,ti143,ti87, h6, h5]
        refine condC_dec (fun h' => ?_) (fun h' => ?_)
        · have e : k0 + ↑a * 14 + ↑b = k0 + ↑(a * 14 + b) := by omega
          have e2 : (markL k0 l (a * 14 + b)).set (a * 14 + b) (k0 + ↑a * 14 + ↑b) = markL k0 l (a * 14 + (b + 1)) := by rw [e, markL_set _ _ _ (by omega)]; rfl
          have e3 : (markL k0 l (a * 14 + b)).length = n * 14 := by rw [markL_length _ _ _ (by omega), hl]
          try simp (disch := first | omega | (simp only [ints_length, List.length_replicate]; done) | (simp only [ints_length, List.length_replicate]; omega)) only [Sall,evalOp,init,binE,binI,unE,convE,okNil,builtE,gv,TD.isAgg,resV,↓reduceIte,Nat.reduceEqDiff,reduceCtorEq,Nat.reduceAdd,Nat.reduceMul,Nat.reduceLeDiff,quietOp,blindOp,Int.reduceEq,Int.reduceLT,Int.reduceLE,Nat.reduceLT,ti2,ti3,ti4,ti45,ti46,ti38,ti25,ti30,ti22,ti32,ti24,ti95,ti172,ti169,ti165,ti166,ti65,ti143,ti87, h6, h5, h1, h0, hr, w64, ints_set, e2, e3]
          refine ⟨⟨by omega, by omega⟩, ⟨by omega, by omega⟩, by omega, 14 - (b + 1), by omega, b + 1, ?_⟩
          try simp (disch := first | omega | (simp only [ints_length, List.length_replicate]; done) | (simp only [ints_length, List.length_replicate]; omega)) only [Sall,evalOp,init,binE,binI,unE,convE,okNil,builtE,gv,TD.isAgg,resV,↓reduceIte,Nat.reduceEqDiff,reduceCtorEq,Nat.reduceAdd,Nat.reduceMul,Nat.reduceLeDiff,quietOp,blindOp,Int.reduceEq,Int.reduceLT,Int.reduceLE,Nat.reduceLT,ti2,ti3,ti4,ti45,ti46,ti38,ti25,ti30,ti22,ti32,ti24,ti95,ti172,ti169,ti165,ti166,ti65,ti143,ti87, true_and]
          and_intros <;> first | omega | assumption | skip
          intro x hx
          rw [if_neg (by omega)]; exact hsm x hx
        · try simp (disch := first | omega | (simp only [ints_length, List.length_replicate]; done) | (simp only [ints_length, List.length_replicate]; omega)) only [Sall,evalOp,init,binE,binI,unE,convE,okNil,builtE,gv,TD.isAgg,resV,↓reduceIte,Nat.reduceEqDiff,reduceCtorEq,Nat.reduceAdd,Nat.reduceMul,Nat.reduceLeDiff,quietOp,blindOp,Int.reduceEq,Int.reduceLT,Int.reduceLE,Nat.reduceLT,ti2,ti3,ti4,ti45,ti46,ti38,ti25,ti30,ti22,ti32,ti24,ti95,ti172,ti169,ti165,ti166,ti65,ti143,ti87, h6, h5, h1, h0, w64]
          have hb : b = 14 := by omega
          subst hb
          refine ⟨n - (a + 1), by omega, a + 1, rfl, by omega, by omega, by omega, hnx, hsm, ?_⟩
          refine ⟨by rw [markL_length _ _ _ (by omega)]; exact hv.1, .inr ⟨i, hi1, hi2, rfl, ?_⟩⟩
          rw [hr, show (a + 1) * 14 = a * 14 + 14 by omega]
    · try simp (disch := first | omega | (simp only [ints_length, List.length_replicate]; done) | (simp only [ints_length, List.length_replicate]; omega)) only [Sall,evalOp,init,binE,binI,unE,convE,okNil,builtE,gv,TD.isAgg,resV,↓reduceIte,Nat.reduceEqDiff,reduceCtorEq,Nat.reduceAdd,Nat.reduceMul,Nat.reduceLeDiff,quietOp,blindOp,Int.reduceEq,Int.reduceLT,Int.reduceLE,Nat.reduceLT,ti2,ti3,ti4,ti45,ti46,ti38,ti25,ti30,ti22,ti32,ti24,ti95,ti172,ti169,ti165,ti166,ti65,ti143,ti87, h1]
      have ha : a = n := by omega
      subst ha
      refine ⟨rfl, by omega, fun i hi _ => hsm i hi, ?_⟩
      rw [← hv.1] at hfr ⊢
      rwa [markL_all] at hfr

theorem markSchedule_c (ty lo hi : Nat) (v : Value) (q : Int) (n : Nat) (l : List Int) (k0 : Int) (hk : 0 ≤ k0 ∧ k0 ≤ 4294967296) (hn : n ≤ 4294967296) (H : AH) (hv : Fr 14 ty lo hi H v n l) (hh : hi ≤ H.next) :
    ACalls Try.prog 22 [.agg #[.int .i64 q, v], .int .i64 k0] H (fun r H' => r = .int .i64 (k0 + n * 14) ∧ H.next ≤ H'.next ∧ (∀ i, ¬(lo ≤ i ∧ i < hi) → i < H.next → H'.row i = H.row i) ∧ Fr 14 ty lo hi H' v n (seqL k0 (n * 14))) := by
  refine acalls_of_awp [.tmp 4] Try.func22 (by kernel_rfl) rfl rfl (Nat.le_of_ble_eq_true rfl) (by kernel_rfl) ?_
  try simp (disch := first | omega | (simp only [ints_length, List.length_replicate]; done) | (simp only [ints_length, List.length_replicate]; omega)) only [Sall,evalOp,init,binE,binI,unE,convE,okNil,builtE,gv,TD.isAgg,resV,↓reduceIte,Nat.reduceEqDiff,reduceCtorEq,Nat.reduceAdd,Nat.reduceMul,Nat.reduceLeDiff,quietOp,blindOp,Int.reduceEq,Int.reduceLT,Int.reduceLE,Nat.reduceLT,ti2,ti3,ti4,ti45,ti46,ti38,ti25,ti30,ti22,ti32,ti24,ti95,ti172,ti169,ti165,ti166,ti65,ti143,ti87, true_and]
  have hv' : Fr 14 ty lo hi (H.push ⟨32, true, [.int .i64 q, v]⟩) v n l := hv.same fun i _ h2 => by rw [AH.push_row, if_neg (by omega)]
  refine (markRoundS_c ty lo hi v n l k0 hk hn _ hv').fin ?_
  rintro H' ⟨h1, h2, h3⟩
  try simp (disch := first | omega | (simp only [ints_length, List.length_replicate]; done) | (simp only [ints_length, List.length_replicate]; omega)) only [Sall,evalOp,init,binE,binI,unE,convE,okNil,builtE,gv,TD.isAgg,resV,↓reduceIte,Nat.reduceEqDiff,reduceCtorEq,Nat.reduceAdd,Nat.reduceMul,Nat.reduceLeDiff,quietOp,blindOp,Int.reduceEq,Int.reduceLT,Int.reduceLE,Nat.reduceLT,ti2,ti3,ti4,ti45,ti46,ti38,ti25,ti30,ti22,ti32,ti24,ti95,ti172,ti169,ti165,ti166,ti65,ti143,ti87, true_and]
  rw [AH.push_next] at h1
  refine ⟨by omega, fun i hi' hi2 => ?_, h3⟩
  rw [h2 i hi' (by rw [AH.push_next]; omega), AH.push_row, if_neg (by omega)]

/-! ### Marks that are held -/
end Go.Proofs.Ytgkmdfjjlghecaa.A
end

section
set_option linter.unusedSimpArgs false
set_option linter.unusedVariables false
set_option maxRecDepth 100000
namespace Go.Proofs.Ytgkmdfjjlghecaa.A
open Go Go.Abs Go.RowKit

theorem law_NextRound_c (q0 : Int) (v0 : Value) (n0 : Nat) (l0 : List Int) (v1 : Value) (ll1 : List (List Int)) (H : AH) (h0 : Rd 14 H v0 n0 l0) (b0 : n0 ≤ 9223372036854775807) (h1 : Rd2 1 H v1 ll1) (b1 : ll1.length ≤ 9223372036854775807) (c1 : ∀ y ∈ ll1, y.length ≤ 9223372036854775807) :
    ACalls Try.prog 5 [.agg #[.int .i64 q0, v0], v1] H (fun v _ => v = .bool true ∧ True) := by
  refine ACalls.wf (by kernel_rfl) fun hs => acalls_of_awp [.tmp 4] Try.func5 (by kernel_rfl) rfl rfl (Nat.le_of_ble_eq_true rfl) (by kernel_rfl) ?_
  have o0 := h0.one
  try simp (disch := first | omega | (simp only [ints_length, List.length_replicate]; done) | (simp only [ints_length, List.length_replicate]; omega)) only [Sall,evalOp,init,binE,binI,unE,convE,okNil,builtE,gv,TD.isAgg,resV,↓reduceIte,Nat.reduceEqDiff,reduceCtorEq,Nat.reduceAdd,Nat.reduceMul,Nat.reduceLeDiff,quietOp,blindOp,Int.reduceEq,Int.reduceLT,Int.reduceLE,Nat.reduceLT,ti2,ti3,ti4,ti45,ti46,ti38,ti25,ti30,ti22,ti32,ti24,ti95,ti172,ti169,ti165,ti166,ti65,ti143,ti87, o0]
  obtain ⟨H1, eH1⟩ : ∃ H1, H1 = (H.push ⟨24, true, [.int .i64 q0, v0]⟩) := ⟨_, rfl⟩
  have nx1 : H1.next = H.next + 1 := by rw [eH1]; rfl
  have U1 : Up H.next H H1 := by rw [eH1]; exact ((Up.refl _ H).push (by first | omega | (simp only [AH.push_next]; omega)) _)
  have e0 : H1.row H.next = some ⟨24, true, [.int .i64 q0, v0]⟩ := by rw [eH1]; simp [AH.push_row, AH.push_next]
  rw [← eH1]
  clear eH1
  refine (szSchedule_c q0 v0 n0 l0 _ H1 (h0.same (U1.le hs).row) (by omega) b0).to ?_
  obtain ⟨x0, ex0⟩ : ∃ x, x = szL (1048576) n0 := ⟨_, rfl⟩
  rw [← ex0]
  have z0 : 0 ≤ x0 → (n0 : Int) + x0 = 1048576 := by intro hx; unfold szL at ex0; split at ex0 <;> omega
  refine Holds.mp ?_
  by_cases y0 : x0 < 0
  · try simp (disch := first | omega | (simp only [ints_length, List.length_replicate]; done) | (simp only [ints_length, List.length_replicate]; omega)) only [Sall,evalOp,init,binE,binI,unE,convE,okNil,builtE,gv,TD.isAgg,resV,↓reduceIte,Nat.reduceEqDiff,reduceCtorEq,Nat.reduceAdd,Nat.reduceMul,Nat.reduceLeDiff,quietOp,blindOp,Int.reduceEq,Int.reduceLT,Int.reduceLE,Nat.reduceLT,ti2,ti3,ti4,ti45,ti46,ti38,ti25,ti30,ti22,ti32,ti24,ti95,ti172,ti169,ti165,ti166,ti65,ti143,ti87, y0, decide_true]
  have y0' := z0 (by omega)
  try simp (disch := first | omega | (simp only [ints_length, List.length_replicate]; done) | (simp only [ints_length, List.length_replicate]; omega)) only [Sall,evalOp,init,binE,binI,unE,convE,okNil,builtE,gv,TD.isAgg,resV,↓reduceIte,Nat.reduceEqDiff,reduceCtorEq,Nat.reduceAdd,Nat.reduceMul,Nat.reduceLeDiff,quietOp,blindOp,Int.reduceEq,Int.reduceLT,Int.reduceLE,Nat.reduceLT,ti2,ti3,ti4,ti45,ti46,ti38,ti25,ti30,ti22,ti32,ti24,ti95,ti172,ti169,ti165,ti166,ti65,ti143,ti87, y0, decide_false, e0]
  refine (szInt64SS_c v1 ll1 _ H1 (h1.same (U1.le hs).row) (by omega) b1 c1).exH ?_
  rintro x1 z1
  refine Holds.mp ?_
  by_cases y1 : x1 < 0
  · try simp (disch := first | omega | (simp only [ints_length, List.length_replicate]; done) | (simp only [ints_length, List.length_replicate]; omega)) only [Sall,evalOp,init,binE,binI,unE,convE,okNil,builtE,gv,TD.isAgg,resV,↓reduceIte,Nat.reduceEqDiff,reduceCtorEq,Nat.reduceAdd,Nat.reduceMul,Nat.reduceLeDiff,quietOp,blindOp,Int.reduceEq,Int.reduceLT,Int.reduceLE,Nat.reduceLT,ti2,ti3,ti4,ti45,ti46,ti38,ti25,ti30,ti22,ti32,ti24,ti95,ti172,ti169,ti165,ti166,ti65,ti143,ti87, y1, decide_true]
  have y1' := z1 (by omega)
  try simp (disch := first | omega | (simp only [ints_length, List.length_replicate]; done) | (simp only [ints_length, List.length_replicate]; omega)) only [Sall,evalOp,init,binE,binI,unE,convE,okNil,builtE,gv,TD.isAgg,resV,↓reduceIte,Nat.reduceEqDiff,reduceCtorEq,Nat.reduceAdd,Nat.reduceMul,Nat.reduceLeDiff,quietOp,blindOp,Int.reduceEq,Int.reduceLT,Int.reduceLE,Nat.reduceLT,ti2,ti3,ti4,ti45,ti46,ti38,ti25,ti30,ti22,ti32,ti24,ti95,ti172,ti169,ti165,ti166,ti65,ti143,ti87, y1, decide_false, e0]
  have d1 : ∀ y ∈ ll1, y.length ≤ 1048576 := fun y hy => by have := tot_mem hy; omega
  have hR0 : (nextR q0 n0 l0 ll1).length = 14 := nextR_length q0 n0 l0 ll1
  refine (toSchedule_c q0 v0 n0 l0 H1 (h0.same (U1.le hs).row) (by omega)).ex ?_
  rintro u0 H2 ⟨up2, Fu0⟩
  have nx2 := up2.next
  have U2 : Up H.next H H2 := U1.trans up2 (by omega)
  replace e0 : H2.row H.next = some ⟨24, true, [.int .i64 q0, v0]⟩ := by rw [up2.row _ (by omega), e0]
  have Ou0 := Fu0.rd.one
  try simp (disch := first | omega | (simp only [ints_length, List.length_replicate]; done) | (simp only [ints_length, List.length_replicate]; omega)) only [Sall,evalOp,init,binE,binI,unE,convE,okNil,builtE,gv,TD.isAgg,resV,↓reduceIte,Nat.reduceEqDiff,reduceCtorEq,Nat.reduceAdd,Nat.reduceMul,Nat.reduceLeDiff,quietOp,blindOp,Int.reduceEq,Int.reduceLT,Int.reduceLE,Nat.reduceLT,ti2,ti3,ti4,ti45,ti46,ti38,ti25,ti30,ti22,ti32,ti24,ti95,ti172,ti169,ti165,ti166,ti65,ti143,ti87, e0, hR0, Ou0]
  refine (toInt64SS_c v1 ll1 H2 (h1.same (U2.le hs).row) (by omega) (fun y hy => by have := d1 y hy; omega)).mono ?_
  rintro u1 H3 ⟨up3, Fu1⟩
  have nx3 := up3.next
  have U3 : Up H.next H H3 := U2.trans up3 (by omega)
  replace e0 : H3.row H.next = some ⟨24, true, [.int .i64 q0, v0]⟩ := by rw [up3.row _ (by omega), e0]
  replace Fu0 : Fr 14 46 H1.next H2.next H3 u0 n0 l0 := Fu0.same fun i _ hi => up3.row i (by omega)
  refine Holds.mp ?_
  try simp (disch := first | omega | (simp only [ints_length, List.length_replicate]; done) | (simp only [ints_length, List.length_replicate]; omega)) only [Sall,evalOp,init,binE,binI,unE,convE,okNil,builtE,gv,TD.isAgg,resV,↓reduceIte,Nat.reduceEqDiff,reduceCtorEq,Nat.reduceAdd,Nat.reduceMul,Nat.reduceLeDiff,quietOp,blindOp,Int.reduceEq,Int.reduceLT,Int.reduceLE,Nat.reduceLT,ti2,ti3,ti4,ti45,ti46,ti38,ti25,ti30,ti22,ti32,ti24,ti95,ti172,ti169,ti165,ti166,ti65,ti143,ti87, e0, hR0, Ou0]
  refine (specNextRound_c q0 u0 n0 l0 u1 ll1 H3 Fu0.rd (by omega) Fu1.rd (by omega) (fun y hy => by have := d1 y hy; omega)).to ?_
  have ne30 : ¬ H.next = H3.next := by omega
  try simp (disch := first | omega | (simp only [ints_length, List.length_replicate]; done) | (simp only [ints_length, List.length_replicate]; omega)) only [Sall,evalOp,init,binE,binI,unE,convE,okNil,builtE,gv,TD.isAgg,resV,↓reduceIte,Nat.reduceEqDiff,reduceCtorEq,Nat.reduceAdd,Nat.reduceMul,Nat.reduceLeDiff,quietOp,blindOp,Int.reduceEq,Int.reduceLT,Int.reduceLE,Nat.reduceLT,ti2,ti3,ti4,ti45,ti46,ti38,ti25,ti30,ti22,ti32,ti24,ti95,ti172,ti169,ti165,ti166,ti65,ti143,ti87, e0, hR0, Ou0, ne30]
  obtain ⟨H4, eh⟩ : ∃ K, K = (H3.push ⟨46, true, ints (List.replicate 14 0)⟩).setCells H3.next (ints (nextR q0 n0 l0 ll1)) := ⟨_, rfl⟩
  have up4 : Up H3.next H3 H4 := by rw [eh]; exact ((Up.refl _ _).push (Nat.le_refl _) _).set (Nat.le_refl _) _
  have Ew0 : H4.row H3.next = some ⟨46, true, ints (nextR q0 n0 l0 ll1)⟩ := by rw [eh, AH.setCells_row, if_pos rfl, AH.push_row, if_pos rfl]; rfl
  have nn4 : H4.next = H3.next + 1 := by rw [eh]; rfl
  rw [← eh]
  clear eh
  have nx4 := up4.next
  have U4 : Up H.next H H4 := U3.trans up4 (by omega)
  replace e0 : H4.row H.next = some ⟨24, true, [.int .i64 q0, v0]⟩ := by rw [up4.row _ (by omega), e0]
  replace Fu0 : Fr 14 46 H1.next H2.next H4 u0 n0 l0 := Fu0.same fun i _ hi => up4.row i (by omega)
  replace Fu1 : Fr2 1 38 2 H2.next H3.next H4 u1 ll1 := Fu1.same fun i _ hi => up4.row i (by omega)
  try simp (disch := first | omega | (simp only [ints_length, List.length_replicate]; done) | (simp only [ints_length, List.length_replicate]; omega)) only [Sall,evalOp,init,binE,binI,unE,convE,okNil,builtE,gv,TD.isAgg,resV,↓reduceIte,Nat.reduceEqDiff,reduceCtorEq,Nat.reduceAdd,Nat.reduceMul,Nat.reduceLeDiff,quietOp,blindOp,Int.reduceEq,Int.reduceLT,Int.reduceLE,Nat.reduceLT,ti2,ti3,ti4,ti45,ti46,ti38,ti25,ti30,ti22,ti32,ti24,ti95,ti172,ti169,ti165,ti166,ti65,ti143,ti87, e0, Ew0, hR0, Ou0]
  refine (toSchedule_c q0 v0 n0 l0 H4 (h0.same (U4.le hs).row) (by omega)).ex ?_
  rintro g0 H5 ⟨up5, Fg0⟩
  have nx5 := up5.next
  have U5 : Up H.next H H5 := U4.trans up5 (by omega)
  replace e0 : H5.row H.next = some ⟨24, true, [.int .i64 q0, v0]⟩ := by rw [up5.row _ (by omega), e0]
  replace Ew0 : H5.row H3.next = some ⟨46, true, ints (nextR q0 n0 l0 ll1)⟩ := by rw [up5.row _ (by omega), Ew0]
  have Og0 := Fg0.rd.one
  try simp (disch := first | omega | (simp only [ints_length, List.length_replicate]; done) | (simp only [ints_length, List.length_replicate]; omega)) only [Sall,evalOp,init,binE,binI,unE,convE,okNil,builtE,gv,TD.isAgg,resV,↓reduceIte,Nat.reduceEqDiff,reduceCtorEq,Nat.reduceAdd,Nat.reduceMul,Nat.reduceLeDiff,quietOp,blindOp,Int.reduceEq,Int.reduceLT,Int.reduceLE,Nat.reduceLT,ti2,ti3,ti4,ti45,ti46,ti38,ti25,ti30,ti22,ti32,ti24,ti95,ti172,ti169,ti165,ti166,ti65,ti143,ti87, e0, Ew0, hR0, Ou0, Og0]
  obtain ⟨H6, eh⟩ : ∃ K, K = (H5.push ⟨32, true, [.int .i64 0, .slice none 0 0]⟩).setCells H5.next [.int .i64 q0, g0] := ⟨_, rfl⟩
  have up6 : Up H5.next H5 H6 := by rw [eh]; exact ((Up.refl _ _).push (Nat.le_refl _) _).set (Nat.le_refl _) _
  have E0 : H6.row H5.next = some ⟨32, true, [.int .i64 q0, g0]⟩ := by rw [eh, AH.setCells_row, if_pos rfl, AH.push_row, if_pos rfl]; rfl
  have nn6 : H6.next = H5.next + 1 := by rw [eh]; rfl
  rw [← eh]
  clear eh
  have nx6 := up6.next
  have U6 : Up H.next H H6 := U5.trans up6 (by omega)
  replace e0 : H6.row H.next = some ⟨24, true, [.int .i64 q0, v0]⟩ := by rw [up6.row _ (by omega), e0]
  replace Ew0 : H6.row H3.next = some ⟨46, true, ints (nextR q0 n0 l0 ll1)⟩ := by rw [up6.row _ (by omega), Ew0]
  replace Fg0 : Fr 14 46 H4.next H5.next H6 g0 n0 l0 := Fg0.same fun i _ hi => up6.row i (by omega)
  try simp (disch := first | omega | (simp only [ints_length, List.length_replicate]; done) | (simp only [ints_length, List.length_replicate]; omega)) only [Sall,evalOp,init,binE,binI,unE,convE,okNil,builtE,gv,TD.isAgg,resV,↓reduceIte,Nat.reduceEqDiff,reduceCtorEq,Nat.reduceAdd,Nat.reduceMul,Nat.reduceLeDiff,quietOp,blindOp,Int.reduceEq,Int.reduceLT,Int.reduceLE,Nat.reduceLT,ti2,ti3,ti4,ti45,ti46,ti38,ti25,ti30,ti22,ti32,ti24,ti95,ti172,ti169,ti165,ti166,ti65,ti143,ti87, e0, Ew0, E0, hR0, Ou0, Og0]
  refine (toInt64SS_c v1 ll1 H6 (h1.same (U6.le hs).row) (by omega) (fun y hy => by have := d1 y hy; omega)).mono ?_
  rintro g1 H7 ⟨up7, Fg1⟩
  have nx7 := up7.next
  have U7 : Up H.next H H7 := U6.trans up7 (by omega)
  replace e0 : H7.row H.next = some ⟨24, true, [.int .i64 q0, v0]⟩ := by rw [up7.row _ (by omega), e0]
  replace Ew0 : H7.row H3.next = some ⟨46, true, ints (nextR q0 n0 l0 ll1)⟩ := by rw [up7.row _ (by omega), Ew0]
  replace E0 : H7.row H5.next = some ⟨32, true, [.int .i64 q0, g0]⟩ := by rw [up7.row _ (by omega), E0]
  replace Fg0 : Fr 14 46 H4.next H5.next H7 g0 n0 l0 := Fg0.same fun i _ hi => up7.row i (by omega)
  refine Holds.mp ?_
  try simp (disch := first | omega | (simp only [ints_length, List.length_replicate]; done) | (simp only [ints_length, List.length_replicate]; omega)) only [Sall,evalOp,init,binE,binI,unE,convE,okNil,builtE,gv,TD.isAgg,resV,↓reduceIte,Nat.reduceEqDiff,reduceCtorEq,Nat.reduceAdd,Nat.reduceMul,Nat.reduceLeDiff,quietOp,blindOp,Int.reduceEq,Int.reduceLT,Int.reduceLE,Nat.reduceLT,ti2,ti3,ti4,ti45,ti46,ti38,ti25,ti30,ti22,ti32,ti24,ti95,ti172,ti169,ti165,ti166,ti65,ti143,ti87, e0, Ew0, E0, hR0, Ou0, Og0]
  refine (NextRound_c q0 g0 n0 l0 g1 ll1 H7 Fg0.rd (by omega) Fg1.rd (by omega) (fun y hy => by have := d1 y hy; omega)).to ?_
  have ne70 : ¬ H.next = H7.next := by omega
  have ne71 : ¬ H3.next = H7.next := by omega
  have ne72 : ¬ H5.next = H7.next := by omega
  try simp (disch := first | omega | (simp only [ints_length, List.length_replicate]; done) | (simp only [ints_length, List.length_replicate]; omega)) only [Sall,evalOp,init,binE,binI,unE,convE,okNil,builtE,gv,TD.isAgg,resV,↓reduceIte,Nat.reduceEqDiff,reduceCtorEq,Nat.reduceAdd,Nat.reduceMul,Nat.reduceLeDiff,quietOp,blindOp,Int.reduceEq,Int.reduceLT,Int.reduceLE,Nat.reduceLT,ti2,ti3,ti4,ti45,ti46,ti38,ti25,ti30,ti22,ti32,ti24,ti95,ti172,ti169,ti165,ti166,ti65,ti143,ti87, e0, Ew0, E0, hR0, Ou0, Og0, ne70, ne71, ne72]
  obtain ⟨H8, eh⟩ : ∃ K, K = (H7.push ⟨46, true, ints (List.replicate 14 0)⟩).setCells H7.next (ints (nextR q0 n0 l0 ll1)) := ⟨_, rfl⟩
  have up8 : Up H7.next H7 H8 := by rw [eh]; exact ((Up.refl _ _).push (Nat.le_refl _) _).set (Nat.le_refl _) _
  have Er0 : H8.row H7.next = some ⟨46, true, ints (nextR q0 n0 l0 ll1)⟩ := by rw [eh, AH.setCells_row, if_pos rfl, AH.push_row, if_pos rfl]; rfl
  have nn8 : H8.next = H7.next + 1 := by rw [eh]; rfl
  rw [← eh]
  clear eh
  have nx8 := up8.next
  have U8 : Up H.next H H8 := U7.trans up8 (by omega)
  replace e0 : H8.row H.next = some ⟨24, true, [.int .i64 q0, v0]⟩ := by rw [up8.row _ (by omega), e0]
  replace Ew0 : H8.row H3.next = some ⟨46, true, ints (nextR q0 n0 l0 ll1)⟩ := by rw [up8.row _ (by omega), Ew0]
  replace E0 : H8.row H5.next = some ⟨32, true, [.int .i64 q0, g0]⟩ := by rw [up8.row _ (by omega), E0]
  replace Fg0 : Fr 14 46 H4.next H5.next H8 g0 n0 l0 := Fg0.same fun i _ hi => up8.row i (by omega)
  replace Fg1 : Fr2 1 38 2 H6.next H7.next H8 g1 ll1 := Fg1.same fun i _ hi => up8.row i (by omega)
  try simp (disch := first | omega | (simp only [ints_length, List.length_replicate]; done) | (simp only [ints_length, List.length_replicate]; omega)) only [Sall,evalOp,init,binE,binI,unE,convE,okNil,builtE,gv,TD.isAgg,resV,↓reduceIte,Nat.reduceEqDiff,reduceCtorEq,Nat.reduceAdd,Nat.reduceMul,Nat.reduceLeDiff,quietOp,blindOp,Int.reduceEq,Int.reduceLT,Int.reduceLE,Nat.reduceLT,ti2,ti3,ti4,ti45,ti46,ti38,ti25,ti30,ti22,ti32,ti24,ti95,ti172,ti169,ti165,ti166,ti65,ti143,ti87, e0, Ew0, E0, Er0, hR0, Ou0, Og0]
  refine (eqRound_c (nextR q0 n0 l0 ll1) hR0 H8).to ?_
  try simp (disch := first | omega | (simp only [ints_length, List.length_replicate]; done) | (simp only [ints_length, List.length_replicate]; omega)) only [Sall,evalOp,init,binE,binI,unE,convE,okNil,builtE,gv,TD.isAgg,resV,↓reduceIte,Nat.reduceEqDiff,reduceCtorEq,Nat.reduceAdd,Nat.reduceMul,Nat.reduceLeDiff,quietOp,blindOp,Int.reduceEq,Int.reduceLT,Int.reduceLE,Nat.reduceLT,ti2,ti3,ti4,ti45,ti46,ti38,ti25,ti30,ti22,ti32,ti24,ti95,ti172,ti169,ti165,ti166,ti65,ti143,ti87, Bool.not_true, bne_self_eq_false, e0, Ew0, E0, Er0, hR0, Ou0, Og0]
  try simp (disch := first | omega | (simp only [ints_length, List.length_replicate]; done) | (simp only [ints_length, List.length_replicate]; omega)) only [Sall,evalOp,init,binE,binI,unE,convE,okNil,builtE,gv,TD.isAgg,resV,↓reduceIte,Nat.reduceEqDiff,reduceCtorEq,Nat.reduceAdd,Nat.reduceMul,Nat.reduceLeDiff,quietOp,blindOp,Int.reduceEq,Int.reduceLT,Int.reduceLE,Nat.reduceLT,ti2,ti3,ti4,ti45,ti46,ti38,ti25,ti30,ti22,ti32,ti24,ti95,ti172,ti169,ti165,ti166,ti65,ti143,ti87, bne_self_eq_false, beq_self_eq_true, Bool.not_true, e0, Ew0, E0, Er0, hR0, Ou0, Og0]
  refine draw_id (by kernel_rfl) (by kernel_rfl) ?_
  try simp (disch := first | omega | (simp only [ints_length, List.length_replicate]; done) | (simp only [ints_length, List.length_replicate]; omega)) only [Sall,evalOp,init,binE,binI,unE,convE,okNil,builtE,gv,TD.isAgg,resV,↓reduceIte,Nat.reduceEqDiff,reduceCtorEq,Nat.reduceAdd,Nat.reduceMul,Nat.reduceLeDiff,quietOp,blindOp,Int.reduceEq,Int.reduceLT,Int.reduceLE,Nat.reduceLT,ti2,ti3,ti4,ti45,ti46,ti38,ti25,ti30,ti22,ti32,ti24,ti95,ti172,ti169,ti165,ti166,ti65,ti143,ti87, e0, Ew0, E0, Er0, hR0, Ou0, Og0]
  refine ACalls.wf (by kernel_rfl) fun hs9 => (toSchedule_c q0 v0 n0 l0 H8 (h0.same (U8.le hs).row) (by omega)).ex ?_
  rintro t0 H9 ⟨up9, Ft0⟩
  refine ⟨.inr (.inr (up9.le hs9)), ?_⟩
  have nx9 := up9.next
  have U9 : Up H.next H H9 := U8.trans up9 (by omega)
  replace e0 : H9.row H.next = some ⟨24, true, [.int .i64 q0, v0]⟩ := by rw [up9.row _ (by omega), e0]
  replace Ew0 : H9.row H3.next = some ⟨46, true, ints (nextR q0 n0 l0 ll1)⟩ := by rw [up9.row _ (by omega), Ew0]
  replace E0 : H9.row H5.next = some ⟨32, true, [.int .i64 q0, g0]⟩ := by rw [up9.row _ (by omega), E0]
  replace Er0 : H9.row H7.next = some ⟨46, true, ints (nextR q0 n0 l0 ll1)⟩ := by rw [up9.row _ (by omega), Er0]
  replace Fg0 : Fr 14 46 H4.next H5.next H9 g0 n0 l0 := Fg0.same fun i _ hi => up9.row i (by omega)
  replace Fg1 : Fr2 1 38 2 H6.next H7.next H9 g1 ll1 := Fg1.same fun i _ hi => up9.row i (by omega)
  try simp (disch := first | omega | (simp only [ints_length, List.length_replicate]; done) | (simp only [ints_length, List.length_replicate]; omega)) only [Sall,evalOp,init,binE,binI,unE,convE,okNil,builtE,gv,TD.isAgg,resV,↓reduceIte,Nat.reduceEqDiff,reduceCtorEq,Nat.reduceAdd,Nat.reduceMul,Nat.reduceLeDiff,quietOp,blindOp,Int.reduceEq,Int.reduceLT,Int.reduceLE,Nat.reduceLT,ti2,ti3,ti4,ti45,ti46,ti38,ti25,ti30,ti22,ti32,ti24,ti95,ti172,ti169,ti165,ti166,ti65,ti143,ti87, e0, Ew0, E0, Er0, hR0, Ou0, Og0]
  refine (eqSchedule_c g0 t0 q0 n0 l0 (by omega) H9 Fg0.rd Ft0.rd Fg0.rd.one Ft0.rd.one).to ?_
  refine ⟨.inr (.inr (LE.refl _)), ?_⟩
  try simp (disch := first | omega | (simp only [ints_length, List.length_replicate]; done) | (simp only [ints_length, List.length_replicate]; omega)) only [Sall,evalOp,init,binE,binI,unE,convE,okNil,builtE,gv,TD.isAgg,resV,↓reduceIte,Nat.reduceEqDiff,reduceCtorEq,Nat.reduceAdd,Nat.reduceMul,Nat.reduceLeDiff,quietOp,blindOp,Int.reduceEq,Int.reduceLT,Int.reduceLE,Nat.reduceLT,ti2,ti3,ti4,ti45,ti46,ti38,ti25,ti30,ti22,ti32,ti24,ti95,ti172,ti169,ti165,ti166,ti65,ti143,ti87, Bool.not_true, e0, Ew0, E0, Er0, hR0, Ou0, Og0]
  refine (toInt64SS_c v1 ll1 H9 (h1.same (U9.le hs).row) (by omega) (fun y hy => by have := d1 y hy; omega)).mono ?_
  rintro t1 H10 ⟨up10, Ft1⟩
  have nx10 := up10.next
  have U10 : Up H.next H H10 := U9.trans up10 (by omega)
  replace e0 : H10.row H.next = some ⟨24, true, [.int .i64 q0, v0]⟩ := by rw [up10.row _ (by omega), e0]
  replace Ew0 : H10.row H3.next = some ⟨46, true, ints (nextR q0 n0 l0 ll1)⟩ := by rw [up10.row _ (by omega), Ew0]
  replace E0 : H10.row H5.next = some ⟨32, true, [.int .i64 q0, g0]⟩ := by rw [up10.row _ (by omega), E0]
  replace Er0 : H10.row H7.next = some ⟨46, true, ints (nextR q0 n0 l0 ll1)⟩ := by rw [up10.row _ (by omega), Er0]
  replace Fg0 : Fr 14 46 H4.next H5.next H10 g0 n0 l0 := Fg0.same fun i _ hi => up10.row i (by omega)
  replace Fg1 : Fr2 1 38 2 H6.next H7.next H10 g1 ll1 := Fg1.same fun i _ hi => up10.row i (by omega)
  refine Holds.mp ?_
  try simp (disch := first | omega | (simp only [ints_length, List.length_replicate]; done) | (simp only [ints_length, List.length_replicate]; omega)) only [Sall,evalOp,init,binE,binI,unE,convE,okNil,builtE,gv,TD.isAgg,resV,↓reduceIte,Nat.reduceEqDiff,reduceCtorEq,Nat.reduceAdd,Nat.reduceMul,Nat.reduceLeDiff,quietOp,blindOp,Int.reduceEq,Int.reduceLT,Int.reduceLE,Nat.reduceLT,ti2,ti3,ti4,ti45,ti46,ti38,ti25,ti30,ti22,ti32,ti24,ti95,ti172,ti169,ti165,ti166,ti65,ti143,ti87, e0, Ew0, E0, Er0, hR0, Ou0, Og0]
  refine (eqInt64SS_c g1 t1 ll1 (by omega) (fun y hy => by have := d1 y hy; omega) H10 Fg1.rd Ft1.rd).to ?_
  try simp (disch := first | omega | (simp only [ints_length, List.length_replicate]; done) | (simp only [ints_length, List.length_replicate]; omega)) only [Sall,evalOp,init,binE,binI,unE,convE,okNil,builtE,gv,TD.isAgg,resV,↓reduceIte,Nat.reduceEqDiff,reduceCtorEq,Nat.reduceAdd,Nat.reduceMul,Nat.reduceLeDiff,quietOp,blindOp,Int.reduceEq,Int.reduceLT,Int.reduceLE,Nat.reduceLT,ti2,ti3,ti4,ti45,ti46,ti38,ti25,ti30,ti22,ti32,ti24,ti95,ti172,ti169,ti165,ti166,ti65,ti143,ti87, Bool.not_true, e0, Ew0, E0, Er0, hR0, Ou0, Og0]
end Go.Proofs.Ytgkmdfjjlghecaa.A
end

section
set_option linter.unusedVariables false
set_option maxRecDepth 100000
namespace Go.Proofs.Ytgkmdfjjlghecaa.A
open Go Go.Abs Go.RowKit
section
variable {K : Type} {enc : TypeId × Value → K} {W : World} {base b0 : Nat} {spare : Nat → Bool} {held : Bool}

theorem uInt : Try.prog.underlying 2 = some (.int .i64) := by kernel_rfl
theorem uArr : Try.prog.underlying 45 = some (.array 14 2) := by kernel_rfl
theorem uRounds : Try.prog.underlying 22 = some (.slice 45) := by kernel_rfl
theorem cInt : Try.prog.cellsOf 2 = 1 := by kernel_rfl
theorem cArr : Try.prog.cellsOf 45 = 14 := by kernel_rfl
theorem cRounds : Try.prog.cellsOf 22 = 1 := by kernel_rfl
theorem cSched : Try.prog.cellsOf 24 = 2 := by kernel_rfl
theorem fSched : fieldsOf Try.prog 24 = some [(2, 0), (22, 1)] := by kernel_rfl

theorem open_rounds {fuel : Nat} {v : Value} {x : DataW K × List MemPlace} (h : DataW.trod enc Try.prog W base spare held fuel 22 [v] = some x) (hok : Cell.okWide Try.prog W .any 0 22 v) :
    ∃ n l, Rd 14 (given W) v n l ∧ V1 id W.heap.size W v v ∧ n ≤ 9223372036854775807 := by
  have h1 := ok_slice_cell uRounds hok
  obtain ⟨n, l, hr, hv, hh⟩ := trod_ints uRounds cArr (by omega) (intsOf_array uArr uInt cInt cArr) h (h1.imp id fun ⟨b, o, n, c, e, hb, _⟩ => ⟨b, o, n, c, e, hb⟩)
  refine ⟨n, l, hr, hv, ?_⟩
  rcases hh with ⟨_, rfl⟩ | ⟨b, o, c, rfl⟩
  · omega
  · rcases h1 with h1 | ⟨b', o', n', c', e, _, hn⟩
    · cases h1
    · cases e; exact hn

theorem open_sched {fuel : Nat} {c0 c1 : Value} {x : DataW K × List MemPlace} (h : DataW.trod enc Try.prog W base spare held fuel 24 [c0, c1] = some x) (hok : Cell.okWide Try.prog W .any 0 22 c1) :
    ∃ q n l, c0 = .int .i64 q ∧ Rd 14 (given W) c1 n l ∧ V1 id W.heap.size W c1 c1 ∧ n ≤ 9223372036854775807 := by
  obtain ⟨m, hf⟩ := trod_fields fSched h
  obtain ⟨y0, h0⟩ := hf (2, 0) (by simp)
  obtain ⟨y1, h1⟩ := hf (22, 1) (by simp)
  simp only [cInt, cRounds] at h0 h1
  obtain ⟨q, hq, _⟩ := DataW.trod_int uInt h0
  obtain ⟨n, l, hr, hv, hn⟩ := open_rounds h1 hok
  exact ⟨q, n, l, by simpa using hq, hr, hv, hn⟩
end
end Go.Proofs.Ytgkmdfjjlghecaa.A
end

section
set_option linter.unusedVariables false
set_option maxRecDepth 100000
namespace Go.Proofs.Ytgkmdfjjlghecaa.A
open Go Go.Abs Go.RowKit
theorem tSched : Try.prog.cellTypes Try.prog.depth 24 = some [2, 22] := by kernel_rfl
theorem uList : Try.prog.underlying 38 = some (.slice 2) := by kernel_rfl
theorem uLists : Try.prog.underlying 25 = some (.slice 38) := by kernel_rfl
theorem cList : Try.prog.cellsOf 38 = 1 := by kernel_rfl
section
variable {K : Type} {enc : TypeId × Value → K} {W : World} {b0 : Nat} {spare : Nat → Bool} {held : Bool} {v : Value} {d : DataW K} {p : List MemPlace}

theorem open_S (h : DataW.Trod enc Try.prog W 0 spare held 24 v d p) (hok : Value.okWide Try.prog W .any b0 24 v) :
    ∃ q u n l, v = .agg #[.int .i64 q, u] ∧ Rd 14 (given W) u n l ∧ V1 id W.heap.size W u u ∧ n ≤ 9223372036854775807 := by
  obtain ⟨cs, rfl, hs, hc⟩ := ok_struct fSched tSched hok
  rw [cSched] at hs
  obtain ⟨l⟩ := cs
  match l, hs with
  | [c0, c1], _ =>
    obtain ⟨fuel, h⟩ := h
    obtain ⟨e, he, k1⟩ := hc 1 c1 rfl
    cases he
    obtain ⟨q, n, l, rfl, r1, v1, n1⟩ := open_sched h k1
    exact ⟨q, c1, n, l, rfl, r1, v1, n1⟩

theorem open_I (h : DataW.Trod enc Try.prog W 0 spare held 2 v d p) (hok : Value.okWide Try.prog W .any b0 2 v) : ∃ a, v = .int .i64 a ∧ -9223372036854775808 ≤ a ∧ a ≤ 9223372036854775807 := by
  obtain ⟨fuel, h⟩ := h
  obtain ⟨a, ha, hx⟩ := DataW.trod_int uInt h
  unfold Value.okWide at hok
  rw [uInt] at hok
  have h2 : Cell.okWide Try.prog W .any b0 2 v := hok
  unfold Cell.okWide at h2
  rw [uInt] at h2
  have h3 : Cell.ok Try.prog W .any b0 2 v := h2
  unfold Cell.ok at h3
  rw [uInt] at h3
  cases v with
  | int k n =>
    obtain ⟨rfl, h4, h5⟩ := h3
    exact ⟨n, rfl, h4, h5⟩
  | _ => exact False.elim h3

theorem cell_of_val {t e : TypeId} (hu : Try.prog.underlying t = some (.slice e)) (hok : Value.okWide Try.prog W .any b0 t v) : Cell.okWide Try.prog W .any 0 t v := by
  unfold Value.okWide at hok
  rw [hu] at hok
  exact hok

theorem cells_slice1 {t e : TypeId} (hu : Try.prog.underlying t = some (.slice e)) (hok : Cell.okWide Try.prog W .any 0 t v) : v.cells.toList = [v] := by
  rcases ok_slice_cell hu hok with rfl | ⟨b, o, n, c, rfl, _⟩ <;> rfl

theorem open_LL (h : DataW.Trod enc Try.prog W 0 spare held 25 v d p) (hok : Value.okWide Try.prog W .any b0 25 v) :
    ∃ ll, Rd2 1 (given W) v ll ∧ V1 id W.heap.size W v v ∧ ll.length ≤ 9223372036854775807 ∧ ∀ y ∈ ll, y.length ≤ 9223372036854775807 := by
  have h0 := cell_of_val uLists hok
  obtain ⟨fuel, h⟩ := h
  rw [cells_slice1 uLists h0] at h
  obtain ⟨ll, h1, h2, h3, h4⟩ := trod_lists uLists uList uInt cList cInt h (ok_slice_cell uLists h0)
  exact ⟨ll, h1, h2, h3, fun y hy => by have := h4 y hy; unfold Go.maxLen at this; omega⟩

theorem open_L (h : DataW.Trod enc Try.prog W 0 spare held 38 v d p) (hok : Value.okWide Try.prog W .any b0 38 v) :
    ∃ n l, Rd 1 (given W) v n l ∧ V1 id W.heap.size W v v ∧ n ≤ 9223372036854775807 := by
  have h0 := cell_of_val uList hok
  obtain ⟨fuel, h⟩ := h
  rw [cells_slice1 uList h0] at h
  have h1 := ok_slice_cell uList h0
  obtain ⟨n, l, hr, hv, hh⟩ := trod_ints uList cInt (by omega) (intsOf_int uInt) h (h1.imp id fun ⟨b, o, n, c, e, hb, _⟩ => ⟨b, o, n, c, e, hb⟩)
  refine ⟨n, l, hr, hv, ?_⟩
  rcases hh with ⟨_, rfl⟩ | ⟨b, o, c, rfl⟩
  · omega
  · rcases h1 with h1 | ⟨b', o', n', c', e, _, hn⟩
    · cases h1
    · cases e; exact hn
end
end Go.Proofs.Ytgkmdfjjlghecaa.A
end
