/- Contracts: NextRound, the program's side. And what follows. -/
import Derived.Test.YtpienljnoaendaaGreatM6
set_option linter.unusedSimpArgs false
set_option linter.unusedVariables false
section
set_option maxRecDepth 100000
set_option maxHeartbeats 2000000
namespace Go.Proofs.YtpienljnoaendaaGreat.A
open Go Go.Abs Go.RowKit
theorem zeO {α β : Type} {f g : α → List β} : ∀ (l : List α), (∀ a ∈ l, f a = g a) → l.flatMap f = l.flatMap g
  | [], _ => rfl
  | a :: l, h => by
    rw [List.flatMap_cons, List.flatMap_cons, h a (by simp), zeO l fun b hb => h b (by simp [hb])]
theorem zgP {n : Nat} {mt mt' : Nat → Nat → Bool} (h : ∀ a b, a < n → b < n → mt a b = mt' a b) : ∀ (f : Nat) (now : List Int) (a : Nat), a ≤ n → matF n mt f now a = matF n mt' f now a
  | 0, _, _, _ => rfl
  | f + 1, now, a, ha => by
    have hA := zgQ now (n - a) a
    unfold matF
    by_cases c : fstF now (n - a) a = n
    · rw [if_pos c, if_pos c]
    · rw [if_neg c, if_neg c]
      refine zeO _ fun b hb => ?_
      simp only [List.mem_range'_1] at hb
      unfold matB
      rw [h _ b (by omega) (by omega)]
      split
      · rfl
      · exact zgP h f _ _ (by omega)
theorem sl2_rd2 {ty ty' : TypeId} {v : Value} {ll : List (List Int)} {H : AH} {S : Nat → Prop} (hp : (Th.sl2 (Value.int .i64) ty ty' v ll).p H S) : Rd2 1 H v ll := by
  rcases hp with ⟨h1, h2⟩ | ⟨i, vs, o, h1, h2, rfl, h4, h5, h6⟩
  · exact .inl ⟨h1, none, 0, h2, fun _ => rfl⟩
  · refine .inr ⟨i, 0, some 1, _, _, rfl, h4, fun j hj => ?_⟩
    obtain ⟨x, hx, hq⟩ := h6 j hj
    rcases hq.2 with ⟨h7, h8⟩ | ⟨q, q1, q2, q3⟩
    · exact ⟨x, _, by rw [Nat.zero_add]; exact hx, (Fr.rd (ty := ty') (lo := 0) (hi := 0) ⟨by simp, .inl ⟨h7, h8⟩⟩ : Rd 1 H x (ll.getD j []).length (ll.getD j []))⟩
    · exact ⟨x, _, by rw [Nat.zero_add]; exact hx, (Fr.rd (ty := ty') (lo := 0) (hi := q + 1) ⟨by simp, .inr ⟨q, Nat.zero_le _, Nat.lt_succ_self _, q2, q3⟩⟩ : Rd 1 H x (ll.getD j []).length (ll.getD j []))⟩
theorem rd2_but {B H H' : AH} {L : List Th} (h : Ow B H L) (k j1 j2 : Nat) {ty ty' : TypeId} {v : Value} {ll : List (List Int)} {a b : Nat} {ra rb : Row} (hk : L[k]? = some (.sl2 (Value.int .i64) ty ty' v ll)) (h1 : L[j1]? = some (.row a ra)) (h2 : L[j2]? = some (.row b rb)) (n1 : k ≠ j1) (n2 : k ≠ j2)
    (hs : ∀ i, i < H.next → i ≠ a → i ≠ b → H'.row i = H.row i) : Rd2 1 H' v ll := by
  obtain ⟨o, ho⟩ := h.own
  have ha := (ho j1 _ h1).1
  have hb := (ho j2 _ h2).1
  exact sl2_rd2 ((Th.sl2 (Value.int .i64) ty ty' v ll).loc H H' _ _ (fun i hi => hi) (fun i r hi hr => by
    rw [hs i hi.2.1 (fun e => n1 (by rw [e] at hi; omega)) (fun e => n2 (by rw [e] at hi; omega)), hr]) (ho k _ hk))
def plM (n : Nat) (M : List (List Int)) (R : List Int) (i k : Nat) : List (List Int) := (List.range n).map fun a => (List.range n).map fun b => if a < i ∨ (a = i ∧ b < k) then (M.getD (R.getD a 0).toNat []).getD (R.getD b 0).toNat 0 else 0
theorem zgX (n : Nat) (M : List (List Int)) (R : List Int) (i k : Nat) : (plM n M R i k).length = n := by simp [plM]
theorem plM_row {n : Nat} (M : List (List Int)) (R : List Int) (i k : Nat) {a : Nat} (ha : a < n) : (plM n M R i k).getD a [] = (List.range n).map fun b => if a < i ∨ (a = i ∧ b < k) then (M.getD (R.getD a 0).toNat []).getD (R.getD b 0).toNat 0 else 0 := by
  simp [plM, List.getD_eq_getElem?_getD, ha]
theorem plM_rl {n : Nat} (M : List (List Int)) (R : List Int) (i k : Nat) {a : Nat} (ha : a < n) : ((plM n M R i k).getD a []).length = n := by rw [plM_row M R i k ha]; simp
theorem plM_get {n : Nat} (M : List (List Int)) (R : List Int) {a b : Nat} (ha : a < n) (hb : b < n) : ((plM n M R n 0).getD a []).getD b 0 = (M.getD (R.getD a 0).toNat []).getD (R.getD b 0).toNat 0 := by
  rw [plM_row M R n 0 ha]
  simp [List.getD_eq_getElem?_getD, hb, ha]
theorem plM_zero (n : Nat) (M : List (List Int)) (R : List Int) : plM n M R 0 0 = zeroM n := by
  unfold plM zeroM
  apply List.ext_getElem
  · simp
  · intro a h1 h2
    simp only [List.getElem_map, List.getElem_range, List.getElem_replicate]
    apply List.ext_getElem
    · simp
    · intro b h3 h4
      simp
theorem plM_next (n : Nat) (M : List (List Int)) (R : List Int) (i : Nat) : plM n M R i n = plM n M R (i + 1) 0 := by
  unfold plM
  apply List.map_congr_left
  intro a ha
  apply List.map_congr_left
  intro b hb
  simp only [List.mem_range] at ha hb
  by_cases c : a < i ∨ (a = i ∧ b < n)
  · rw [if_pos c, if_pos (by omega)]
  · rw [if_neg c, if_neg (by omega)]
theorem plM_set {n : Nat} (M : List (List Int)) (R : List Int) {i k : Nat} (hi : i < n) (hk : k < n) : (plM n M R i k).set i (((plM n M R i k).getD i []).set k ((M.getD (R.getD i 0).toNat []).getD (R.getD k 0).toNat 0)) = plM n M R i (k + 1) := by
  rw [plM_row M R i k hi]
  unfold plM
  apply List.ext_getElem
  · simp
  · intro a h1 h2
    simp only [List.length_map, List.length_range] at h2
    rw [List.getElem_set]
    by_cases e : i = a
    · subst e
      rw [if_pos rfl]
      simp only [List.getElem_map, List.getElem_range]
      apply List.ext_getElem
      · simp
      · intro b h3 h4
        simp only [List.length_map, List.length_range] at h4
        rw [List.getElem_set]
        simp only [List.getElem_map, List.getElem_range, true_and]
        by_cases e2 : k = b
        · subst e2; rw [if_pos rfl, if_pos (by omega)]
        · rw [if_neg e2]
          split <;> split <;> first | rfl | (exfalso; omega)
    · rw [if_neg e]
      simp only [List.getElem_map, List.getElem_range]
      apply List.map_congr_left
      intro b hb
      split <;> split <;> first | rfl | (exfalso; omega)
structure NyJ (H1 : AH) (n : Nat) (M : List (List Int)) (R : List Int) (sv xv pv rv : Value) (cs fs : List Nat) (t : T) (H : AH) : Prop where
  hcs : cs = [2, 4, 7] ∨ cs = [4, 7] ∨ cs = [7] ∨ cs = []
  hfs : ∀ a ∈ fs, a = 8 ∧ fs = [8]
  t2 : t 2 = pv
  t4 : t 4 = rv
  t31 : t 31 = sv
  t32 : t 32 = xv
  t34 : t 34 = sv
  t37 : t 37 = .int .i64 n
  t7 : fs.contains 8 = false → t 7 = .pointer (some ⟨ptrOf (t 7), 0, none⟩)
  own : Ow H1 H [if cs.contains 2 = true then .no else .sl 1 2 (t 33) n (ints R), if cs.contains 4 = true then .no else .sl2 (Value.int .i64) 33 2 (t 35) M, if cs.contains 7 = true then .no else .sl2 (Value.int .i64) 33 2 (t 38) (zeroM n), if fs.contains 8 = true then .no else .row (ptrOf (t 7)) ⟨33, true, [.slice none 0 0]⟩]
theorem Ow.at4 {B H : AH} {a b c d e : Th} (h : Ow B H [a, b, c, d, e]) : Ow B H [e, b, c, d] ∧ Ow B H [a, e, c, d] ∧ Ow B H [a, b, e, d] ∧ Ow B H [a, b, c, e] := by
  refine ⟨h.sub (fun j => if j = 0 then 4 else j) (fun j hj => match j, hj with | 0, _ => rfl | 1, _ => rfl | 2, _ => rfl | 3, _ => rfl) ?_, h.sub (fun j => if j = 1 then 4 else j) (fun j hj => match j, hj with | 0, _ => rfl | 1, _ => rfl | 2, _ => rfl | 3, _ => rfl) ?_,
    h.sub (fun j => if j = 2 then 4 else j) (fun j hj => match j, hj with | 0, _ => rfl | 1, _ => rfl | 2, _ => rfl | 3, _ => rfl) ?_, h.sub (fun j => if j = 3 then 4 else j) (fun j hj => match j, hj with | 0, _ => rfl | 1, _ => rfl | 2, _ => rfl | 3, _ => rfl) ?_⟩ <;>
  · intro i j hi hj e
    simp only [List.length_cons, List.length_nil] at hi hj
    split at e <;> split at e <;> omega
section
variable {H1 H2 H3 : AH} {n : Nat} {M : List (List Int)} {R : List Int} {sv xv pv rv : Value} {fs : List Nat} {t : T}
theorem NyJ.call2 (h : NyJ H1 n M R sv xv pv rv [2, 4, 7] fs t H2) {w : Value} (o : Ow H2 H3 [.sl 1 2 w n (ints R)]) : NyJ H1 n M R sv xv pv rv [4, 7] fs (upd t 33 w) H3 :=
  ⟨.inr (.inl rfl), h.hfs, h.t2, h.t4, h.t31, h.t32, h.t34, h.t37, h.t7, (Ow.at4 (h.own.call o)).1⟩
theorem NyJ.call4 (h : NyJ H1 n M R sv xv pv rv [4, 7] fs t H2) {w : Value} (o : Ow H2 H3 [.sl2 (Value.int .i64) 33 2 w M]) : NyJ H1 n M R sv xv pv rv [7] fs (upd t 35 w) H3 :=
  ⟨.inr (.inr (.inl rfl)), h.hfs, h.t2, h.t4, h.t31, h.t32, h.t34, h.t37, h.t7, (Ow.at4 (h.own.call o)).2.1⟩
theorem NyJ.call7 (h : NyJ H1 n M R sv xv pv rv [7] fs t H2) {w : Value} (o : Ow H2 H3 [.sl2 (Value.int .i64) 33 2 w (zeroM n)]) : NyJ H1 n M R sv xv pv rv [] fs (upd t 38 w) H3 :=
  ⟨.inr (.inr (.inr rfl)), h.hfs, h.t2, h.t4, h.t31, h.t32, h.t34, h.t37, h.t7, (Ow.at4 (h.own.call o)).2.2.1⟩
theorem NyJ.free {cs : List Nat} (h : NyJ H1 n M R sv xv pv rv cs [8] t H2) : NyJ H1 n M R sv xv pv rv cs [] (upd t 7 (.pointer (some ⟨H2.next, 0, none⟩))) (H2.push ⟨33, true, [.slice none 0 0]⟩) :=
  ⟨h.hcs, (fun a ha => by cases ha), h.t2, h.t4, h.t31, h.t32, h.t34, h.t37, (fun _ => rfl), (Ow.at4 (h.own.push _)).2.2.2⟩
end
def outS (n : Nat) (R : List Int) : Option (List Int) → List Int
  | none => List.replicate 14 0
  | some r => renF R r n
def nxInv (n : Nat) (R : List Int) (oi fi : Nat) (B : AH) (s : Option (List Int)) (H : AH) : Prop :=
  (∀ i, i < B.next → i ≠ oi → i ≠ fi → H.row i = B.row i) ∧ H.row oi = some ⟨69, true, ints (outS n R s)⟩ ∧ H.row fi = some ⟨4, true, [.bool s.isSome]⟩
theorem outS_length (n : Nat) (R : List Int) (s : Option (List Int)) : (outS n R s).length = 14 := by
  cases s
  · rfl
  · exact zb2 _ _ _
theorem fold_head (ls : List (List Int)) : (foldE (fun (_ : Option (List Int)) r => (false, some r)) ls none).2 = ls.head? := by cases ls <;> rfl
theorem NextRound_c (q : Int) (v : Value) (k : Nat) (l : List Int) (x : Value) (ll : List (List Int)) (H : AH) (hv : Rd 14 H v k l) (hk : k ≤ 4294967296) (hx : Rd2 1 H x ll) (hl : ll.length ≤ 4294967296) (hl2 : ∀ y ∈ ll, y.length ≤ 4294967296) :
    ACalls Tryz.prog 51 [.agg #[.int .i64 q, v], x] H (is (.tuple #[.agg (ints (nextR q k l ll)).toArray, .int .i64 (nextC q k l ll)]) H) := by
  have hfl : flat (.tuple #[.agg (ints (nextR q k l ll)).toArray, .int .i64 (nextC q k l ll)]) = true := by
    have := zd9 (nextR q k l ll)
    simp only [flat, List.all_toArray, List.all_cons, List.all_nil, Bool.and_true, this, Abs.scal]
  refine zaZ hfl (ACalls.wf (by kernel_rfl) fun hs => za3 [.cell 4 69, .tmp 5] Tryz.func51 (by kernel_rfl) rfl rfl (Nat.le_of_ble_eq_true rfl) (by kernel_rfl) ?_)
  clear hfl
  have hone := hv.one
  try simp (disch := first | omega | (simp only [L3] <;> omega)) only [Sall,evalOp,init,binA_s,binE,binI,unE,convE,okNil,builtE,gv,TD.isAgg,resV,↓reduceIte,Nat.reduceEqDiff,reduceCtorEq,Nat.reduceAdd,Nat.reduceMul,Nat.reduceLeDiff,za0,za1,Int.reduceEq,Int.reduceLT,Int.reduceLE,Nat.reduceLT,tiA,tiXA, hone]
  have o1 := ((Ow.refl hs).push ⟨26, true, [.int .i64 q, v]⟩).push ⟨69, true, ints (List.replicate 14 0)⟩
  obtain ⟨H1, eg⟩ : ∃ H1, H1 = (H.push ⟨26, true, [.int .i64 q, v]⟩).push ⟨69, true, ints (List.replicate 14 0)⟩ := ⟨_, rfl⟩
  rw [← eg] at o1 ⊢
  clear eg
  have g0 := (o1.rowAt 0 rfl).1
  have g1 : H1.row (H.next + 1) = _ := (o1.rowAt 1 rfl).1
  have hv1 := hv.same (o1.old hs)
  have hx1 := hx.same (o1.old hs)
  have hxo := hx.one
  try simp (disch := first | omega | (simp only [L3] <;> omega)) only [Sall,evalOp,init,binA_s,binE,binI,unE,convE,okNil,builtE,gv,TD.isAgg,resV,↓reduceIte,Nat.reduceEqDiff,reduceCtorEq,Nat.reduceAdd,Nat.reduceMul,Nat.reduceLeDiff,za0,za1,Int.reduceEq,Int.reduceLT,Int.reduceLE,Nat.reduceLT,tiA,tiXA, hone, g0]
  refine (zbO q v k l x ll 105 [] true H1 hv1 hk hx1 hl hl2 fun H' _ _ _ => zh6 H').to ?_
  rw [Bool.and_true]
  have hn0 : nextC q k l ll = if codeS q k l (resB q.toNat k l ll) = 0 then (if q % 2 = 1 then 5 else if headB (nextQ q.toNat k l ll) = true then 0 else 4) else codeS q k l (resB q.toNat k l ll) := rfl
  have hr0 : nextR q k l ll = if codeS q k l (resB q.toNat k l ll) = 0 then (if q % 2 = 1 then List.replicate 14 0 else headR q.toNat (rankQ q.toNat l ll) (nextQ q.toNat k l ll)) else List.replicate 14 0 := rfl
  by_cases hok : schedB q k l = true ∧ resB q.toNat k l ll = true
  · obtain ⟨hb, hres⟩ := hok
    obtain ⟨h2, _, _⟩ := zaC hb
    obtain ⟨n, rfl⟩ : ∃ n : Nat, q = n := ⟨q.toNat, by omega⟩
    rw [zbF hb hres, if_pos rfl] at hn0 hr0
    rw [zbF hb hres]
    rw [Int.toNat_natCast] at hres hn0 hr0
    by_cases hodd : (n : Int) % 2 = 1
    · rw [if_pos hodd] at hn0 hr0
      have et : (n : Int).tmod 2 = 1 := by rw [Int.tmod_eq_emod_of_nonneg (by omega)]; exact hodd
      have ee : ((n : Int).tmod 2 == 1) = true := by rw [et]; rfl
      have e0 : ((0 : Int) == 0) = true := rfl
      have e5 : ((5 : Int) != 0) = true := rfl
      rw [hn0, hr0]
      try simp (disch := first | omega | (simp only [L3] <;> omega)) only [Sall,evalOp,init,binA_s,binE,binI,unE,convE,okNil,builtE,gv,TD.isAgg,resV,↓reduceIte,Nat.reduceEqDiff,reduceCtorEq,Nat.reduceAdd,Nat.reduceMul,Nat.reduceLeDiff,za0,za1,Int.reduceEq,Int.reduceLT,Int.reduceLE,Nat.reduceLT,tiA,tiXA, bne_self_eq_false, beq_self_eq_true, g0, g1, ee, e0, e5]
      exact (o1.putRow 1 rfl (cs' := ints (List.replicate 14 0))).up
    · rw [if_neg hodd] at hn0 hr0
      have et : ((n : Int).tmod 2 == 1) = false := by rw [Int.tmod_eq_emod_of_nonneg (by omega)]; exact beq_eq_false_iff_ne.2 hodd
      have e0 : ((0 : Int) == 0) = true := rfl
      have hM := zh4 n l k
      have hnq : nextQ n k l ll = matF n (fun i k' => mtM (meetM n l k) ((rankQ n l ll).getD i 0).toNat ((rankQ n l ll).getD k' 0).toNat) (n + 1) (freeL n) 0 := rfl
      have hperm : PermN n (rankQ n l ll) := zeY _ n
      have hmeet : ∀ H', Up H1.next H1 H' → ACalls Tryz.prog 167 [.agg #[.int .i64 n, v]] H' (fun u H2 => Up H'.next H' H2 ∧ Fr2 1 33 2 H'.next H2.next H2 u (meetM n l k)) := fun H' u =>
        meetings_c n v k l H' hb (hv1.same fun i r hr => by rw [u.row i (o1.sc _ _ hr), hr]) hk
      have hrank : ∀ H', Up H1.next H1 H' → ACalls Tryz.prog 166 [.agg #[.int .i64 n, v], x] H' (fun u H2 => Up H'.next H' H2 ∧ Fr 1 2 H'.next H2.next H2 u n (rankQ n l ll)) := fun H' u =>
        ranking_c n v k l x ll _ _ _ H' hb hres hl (hv1.same fun i r hr => by rw [u.row i (o1.sc _ _ hr), hr]) (hx1.same fun i r hr => by rw [u.row i (o1.sc _ _ hr), hr]) rfl rfl rfl
      have hsq := square_c n (by omega)
      have hzl : ∀ ls, headB ls = false → headR n (rankQ n l ll) ls = List.replicate 14 0 := fun ls h => by
        unfold headB at h; unfold headR
        rw [Option.isSome_eq_false_iff, Option.isNone_iff_eq_none] at h; rw [h]
      revert hn0 hr0 hmeet hrank hzl hM hnq hperm
      generalize meetM n l k = M
      generalize rankQ n l ll = R
      generalize nextC (n : Int) k l ll = C
      generalize nextR (n : Int) k l ll = L
      generalize nextQ n k l ll = Q
      intro hn0 hr0 hM hnq hperm hmeet hrank hzl
      have hMl : M.length = n := hM.1
      have hMr : ∀ a, a < n → (M.getD a []).length = n := hM.2
      try simp (disch := first | omega | (simp only [L3] <;> omega)) only [Sall,evalOp,init,binA_s,binE,binI,unE,convE,okNil,builtE,gv,TD.isAgg,resV,↓reduceIte,Nat.reduceEqDiff,reduceCtorEq,Nat.reduceAdd,Nat.reduceMul,Nat.reduceLeDiff,za0,za1,Int.reduceEq,Int.reduceLT,Int.reduceLE,Nat.reduceLT,tiA,tiXA, bne_self_eq_false, beq_self_eq_true, g0, g1, et, e0]
      refine zdJ (fun t H2 => t 2 = .pointer (some ⟨H.next, 0, none⟩) ∧ t 4 = .pointer (some ⟨H.next + 1, 0, none⟩) ∧ ∃ (i : Nat) (rv mv pv : Value), t 7 = .pointer (some ⟨i, 0, none⟩) ∧ t 8 = mv ∧ t 9 = pv ∧ Ow H H2 [.row H.next ⟨26, true, [.int .i64 n, v]⟩, .row (H.next + 1) ⟨69, true, ints (List.replicate 14 0)⟩, .sl 1 2 rv n (ints R), .sl2 (Value.int .i64) 33 2 mv M, .sl2 (Value.int .i64) 33 2 pv (zeroM n), .row i ⟨33, true, [rv]⟩]) ?_ ?_
      · refine zi7 [0, 1, 3, 5, 6] [2, 4, 7] [8] (OT.run [9, 10, 11] .nil) (by kernel_rfl) (by kernel_rfl) (Nat.le_of_ble_eq_true rfl) (NyJ H1 n M R (.agg #[.int .i64 n, v]) x (.pointer (some ⟨H.next, 0, none⟩)) (.pointer (some ⟨H.next + 1, 0, none⟩))) ⟨?_, ?_, ?_⟩ ?_
        · intro c cs fs t H2 hJ
          rcases hJ.hcs with e | e | e | e
          · injection e with e1 e2
            subst e1; subst e2
            have t31 := hJ.t31
            have t32 := hJ.t32
            try simp (disch := first | omega | (simp only [L3] <;> omega)) only [Sall,evalOp,init,binA_s,binE,binI,unE,convE,okNil,builtE,gv,TD.isAgg,resV,↓reduceIte,Nat.reduceEqDiff,reduceCtorEq,Nat.reduceAdd,Nat.reduceMul,Nat.reduceLeDiff,za0,za1,Int.reduceEq,Int.reduceLT,Int.reduceLE,Nat.reduceLT,tiA,tiXA, zaF, zaE, za5, za4, t31, t32]
            refine (hrank H2 hJ.own.up).sc.mono ?_
            rintro w H3 ⟨⟨up3, hf3⟩, sc3⟩
            exact ⟨.inr (.inr (up3.le hJ.own.sc)), hJ.call2 (Ow.of_fr up3 sc3 hf3)⟩
          · injection e with e1 e2
            subst e1; subst e2
            have t34 := hJ.t34
            try simp (disch := first | omega | (simp only [L3] <;> omega)) only [Sall,evalOp,init,binA_s,binE,binI,unE,convE,okNil,builtE,gv,TD.isAgg,resV,↓reduceIte,Nat.reduceEqDiff,reduceCtorEq,Nat.reduceAdd,Nat.reduceMul,Nat.reduceLeDiff,za0,za1,Int.reduceEq,Int.reduceLT,Int.reduceLE,Nat.reduceLT,tiA,tiXA, zaF, zaE, za5, za4, t34]
            refine (hmeet H2 hJ.own.up).sc.mono ?_
            rintro w H3 ⟨⟨up3, hf3⟩, sc3⟩
            exact ⟨.inr (.inr (up3.le hJ.own.sc)), hJ.call4 (Ow.of_fr2 up3 sc3 hf3)⟩
          · injection e with e1 e2
            subst e1; subst e2
            have t37 := hJ.t37
            try simp (disch := first | omega | (simp only [L3] <;> omega)) only [Sall,evalOp,init,binA_s,binE,binI,unE,convE,okNil,builtE,gv,TD.isAgg,resV,↓reduceIte,Nat.reduceEqDiff,reduceCtorEq,Nat.reduceAdd,Nat.reduceMul,Nat.reduceLeDiff,za0,za1,Int.reduceEq,Int.reduceLT,Int.reduceLE,Nat.reduceLT,tiA,tiXA, zaF, zaE, za5, za4, t37]
            refine (hsq H2).sc.mono ?_
            rintro w H3 ⟨⟨up3, hf3⟩, sc3⟩
            exact ⟨.inr (.inr (up3.le hJ.own.sc)), hJ.call7 (Ow.of_fr2 up3 sc3 hf3)⟩
          · cases e
        · intro a cs fs t H2 ha hJ
          obtain ⟨rfl, rfl⟩ := hJ.hfs a ha
          try simp (disch := first | omega | (simp only [L3] <;> omega)) only [Sall,evalOp,init,binA_s,binE,binI,unE,convE,okNil,builtE,gv,TD.isAgg,resV,↓reduceIte,Nat.reduceEqDiff,reduceCtorEq,Nat.reduceAdd,Nat.reduceMul,Nat.reduceLeDiff,za0,za1,Int.reduceEq,Int.reduceLT,Int.reduceLE,Nat.reduceLT,tiA,tiXA, zaF, zaE, za5, za4]
          exact ⟨.inr (.inr (hJ.own.sc.le _)), hJ.free⟩
        · intro t H2 hJ
          have t7 := hJ.t7 rfl
          have hown := hJ.own
          obtain ⟨i7, hi7⟩ : ∃ i, i = ptrOf (t 7) := ⟨_, rfl⟩
          rw [← hi7] at t7 hown
          have r7 := (hown.rowAt 3 rfl).1
          have t2 := hJ.t2
          have t4 := hJ.t4
          have ho33 := hown.one 0 rfl
          try simp (disch := first | omega | (simp only [L3] <;> omega)) only [Sall,evalOp,init,binA_s,binE,binI,unE,convE,okNil,builtE,gv,TD.isAgg,resV,↓reduceIte,Nat.reduceEqDiff,reduceCtorEq,Nat.reduceAdd,Nat.reduceMul,Nat.reduceLeDiff,za0,za1,Int.reduceEq,Int.reduceLT,Int.reduceLE,Nat.reduceLT,tiA,tiXA, zaF, zaE, za5, za4, t7, r7, ho33]
          refine ⟨.inr (.inl (by kernel_rfl)), ?_⟩
          try simp (disch := first | omega | (simp only [L3] <;> omega)) only [Sall,evalOp,init,binA_s,binE,binI,unE,convE,okNil,builtE,gv,TD.isAgg,resV,↓reduceIte,Nat.reduceEqDiff,reduceCtorEq,Nat.reduceAdd,Nat.reduceMul,Nat.reduceLeDiff,za0,za1,Int.reduceEq,Int.reduceLT,Int.reduceLE,Nat.reduceLT,tiA,tiXA, zaF, zaE, za5, za4, t7, r7, t2, t4]
          exact ⟨i7, t 33, t 35, t 38, rfl, rfl, rfl, ((o1.call hown).putRow 5 rfl (cs' := [t 33]))⟩
        · try simp (disch := first | omega | (simp only [L3] <;> omega)) only [Sall,evalOp,init,binA_s,binE,binI,unE,convE,okNil,builtE,gv,TD.isAgg,resV,↓reduceIte,Nat.reduceEqDiff,reduceCtorEq,Nat.reduceAdd,Nat.reduceMul,Nat.reduceLeDiff,za0,za1,Int.reduceEq,Int.reduceLT,Int.reduceLE,Nat.reduceLT,tiA,tiXA, zaF, zaE, za5, za4, g0, hone]
          have oN : Ow H1 H1 [.no, .no, .no, .no] := ((Ow.refl o1.sc).addNo).addNo.addNo.addNo
          exact ⟨.inl rfl, (fun a ha => ⟨by simpa using ha, rfl⟩), rfl, rfl, rfl, rfl, rfl, rfl, (fun e => by cases e), oN⟩
      · rintro t H2 ⟨h2', h4, i7, rv, mv, pv, h7, h8, h9, o2⟩
        obtain ⟨ri, rl1, rl2, rfl, rrow⟩ := o2.get 2 rfl (by omega)
        have g7 := (o2.rowAt 5 rfl).1
        try simp (disch := first | omega | (simp only [L3] <;> omega)) only [Sall,evalOp,init,binA_s,binE,binI,unE,convE,okNil,builtE,gv,TD.isAgg,resV,↓reduceIte,Nat.reduceEqDiff,reduceCtorEq,Nat.reduceAdd,Nat.reduceMul,Nat.reduceLeDiff,za0,za1,Int.reduceEq,Int.reduceLT,Int.reduceLE,Nat.reduceLT,tiA,tiXA, h7, g7, builtE]
        rw [← plM_zero n M R] at o2
        refine za7 (fun z t H3 => ∃ i : Nat, z = n - i ∧ i ≤ n ∧ t 41 = .int .i64 i ∧ t 40 = .int .i64 n ∧ t 39 = .slice (some ⟨ri, 0, some 1⟩) n n ∧ t 2 = .pointer (some ⟨H.next, 0, none⟩) ∧ t 4 = .pointer (some ⟨H.next + 1, 0, none⟩) ∧ t 7 = .pointer (some ⟨i7, 0, none⟩) ∧ t 8 = mv ∧ t 9 = pv ∧
          Ow H H3 [.row H.next ⟨26, true, [.int .i64 n, v]⟩, .row (H.next + 1) ⟨69, true, ints (List.replicate 14 0)⟩, .sl 1 2 (.slice (some ⟨ri, 0, some 1⟩) n n) n (ints R), .sl2 (Value.int .i64) 33 2 mv M, .sl2 (Value.int .i64) 33 2 pv (plM n M R i 0), .row i7 ⟨33, true, [.slice (some ⟨ri, 0, some 1⟩) n n]⟩]) n ?_ ?_
        · refine ⟨0, by omega, by omega, ?_⟩
          try simp (disch := first | omega | (simp only [L3] <;> omega)) only [Sall,evalOp,init,binA_s,binE,binI,unE,convE,okNil,builtE,gv,TD.isAgg,resV,↓reduceIte,Nat.reduceEqDiff,reduceCtorEq,Nat.reduceAdd,Nat.reduceMul,Nat.reduceLeDiff,za0,za1,Int.reduceEq,Int.reduceLT,Int.reduceLE,Nat.reduceLT,tiA,tiXA, Int.natCast_zero, h2', h4, h7, h8, h9]
          exact o2
        · rintro z t H3 ⟨i, hz, hin, h41, h40, h39, h2', h4, h7, h8, h9, o3⟩
          have rrow3 := (o3.getV 2 rfl).2.2
          have g7 := (o3.rowAt 5 rfl).1
          have hRl : R.length = n := hperm.len
          try simp (disch := first | omega | (simp only [L3] <;> omega)) only [Sall,evalOp,init,binA_s,binE,binI,unE,convE,okNil,builtE,gv,TD.isAgg,resV,↓reduceIte,Nat.reduceEqDiff,reduceCtorEq,Nat.reduceAdd,Nat.reduceMul,Nat.reduceLeDiff,za0,za1,Int.reduceEq,Int.reduceLT,Int.reduceLE,Nat.reduceLT,tiA,tiXA, h41, h40]
          refine za6 (fun hh => ?_) (fun hh => ?_)
          · have k1 := ints_get? R i (by omega)
            have hri := hperm.rng i (by omega)
            try simp (disch := first | omega | (simp only [L3] <;> omega)) only [Sall,evalOp,init,binA_s,binE,binI,unE,convE,okNil,builtE,gv,TD.isAgg,resV,↓reduceIte,Nat.reduceEqDiff,reduceCtorEq,Nat.reduceAdd,Nat.reduceMul,Nat.reduceLeDiff,za0,za1,Int.reduceEq,Int.reduceLT,Int.reduceLE,Nat.reduceLT,tiA,tiXA, h41, h40, h39, rrow3, k1, h7, g7, builtE, hRl]
            (repeat refine And.intro (by omega) ?_)
            try simp (disch := first | omega | (simp only [L3] <;> omega)) only [Sall,evalOp,init,binA_s,binE,binI,unE,convE,okNil,builtE,gv,TD.isAgg,resV,↓reduceIte,Nat.reduceEqDiff,reduceCtorEq,Nat.reduceAdd,Nat.reduceMul,Nat.reduceLeDiff,za0,za1,Int.reduceEq,Int.reduceLT,Int.reduceLE,Nat.reduceLT,tiA,tiXA, h41, h40, h39, rrow3, k1, h7, g7, builtE, hRl]
            refine za7 (fun z t H4 => ∃ k : Nat, z = n - k ∧ k ≤ n ∧ t 48 = .int .i64 k ∧ t 47 = .int .i64 n ∧ t 46 = .slice (some ⟨ri, 0, some 1⟩) n n ∧ t 10 = .int .i64 i ∧ t 11 = .int .i64 (R.getD i 0) ∧ t 41 = .int .i64 i ∧ t 40 = .int .i64 n ∧ t 39 = .slice (some ⟨ri, 0, some 1⟩) n n ∧ t 2 = .pointer (some ⟨H.next, 0, none⟩) ∧ t 4 = .pointer (some ⟨H.next + 1, 0, none⟩) ∧ t 7 = .pointer (some ⟨i7, 0, none⟩) ∧ t 8 = mv ∧ t 9 = pv ∧
              Ow H H4 [.row H.next ⟨26, true, [.int .i64 n, v]⟩, .row (H.next + 1) ⟨69, true, ints (List.replicate 14 0)⟩, .sl 1 2 (.slice (some ⟨ri, 0, some 1⟩) n n) n (ints R), .sl2 (Value.int .i64) 33 2 mv M, .sl2 (Value.int .i64) 33 2 pv (plM n M R i k), .row i7 ⟨33, true, [.slice (some ⟨ri, 0, some 1⟩) n n]⟩]) n ?_ ?_
            · refine ⟨0, by omega, by omega, ?_⟩
              try simp (disch := first | omega | (simp only [L3] <;> omega)) only [Sall,evalOp,init,binA_s,binE,binI,unE,convE,okNil,builtE,gv,TD.isAgg,resV,↓reduceIte,Nat.reduceEqDiff,reduceCtorEq,Nat.reduceAdd,Nat.reduceMul,Nat.reduceLeDiff,za0,za1,Int.reduceEq,Int.reduceLT,Int.reduceLE,Nat.reduceLT,tiA,tiXA, Int.natCast_zero, h41, h40, h39, h2', h4, h7, h8, h9]
              exact o3
            · rintro z t H4 ⟨k, hz2, hkn, h48, h47, h46, h10, h11, h41, h40, h39, h2', h4, h7, h8, h9, o4⟩
              have rrow4 := (o4.getV 2 rfl).2.2
              try simp (disch := first | omega | (simp only [L3] <;> omega)) only [Sall,evalOp,init,binA_s,binE,binI,unE,convE,okNil,builtE,gv,TD.isAgg,resV,↓reduceIte,Nat.reduceEqDiff,reduceCtorEq,Nat.reduceAdd,Nat.reduceMul,Nat.reduceLeDiff,za0,za1,Int.reduceEq,Int.reduceLT,Int.reduceLE,Nat.reduceLT,tiA,tiXA, h48, h47]
              refine za6 (fun hh2 => ?_) (fun hh2 => ?_)
              · have hz5 : n - (k + 1) < z := by omega
                have hk5 : k + 1 ≤ n := by omega
                have k2 := ints_get? R k (by omega)
                have hrk := hperm.rng k (by omega)
                obtain ⟨mi, mvs, mx, _, _, hmv, mr, mvl, mx1, _, mq⟩ := o4.get2 3 rfl (j := (R.getD i 0).toNat) (by rw [hMl]; omega)
                rw [hMr (R.getD i 0).toNat (by omega)] at mq
                obtain ⟨mqi, _, _, _, rfl, mqr⟩ := mq (by omega)
                have mqr' : H4.row mqi = some ⟨2, true, ints (M.getD (R.getD i 0).toNat [])⟩ := mqr
                have k3 := ints_get? (M.getD (R.getD i 0).toNat []) (R.getD k 0).toNat (by rw [hMr (R.getD i 0).toNat (by omega)]; omega)
                have hpl := zgX n M R i k
                have hplr := plM_rl (n := n) M R i k (a := i) (by omega)
                obtain ⟨pi, pvs, px, _, _, hpv, pr, pvl, px1, _, pq⟩ := o4.get2 4 rfl (j := i) (by omega)
                rw [hplr] at pq
                obtain ⟨pqi, _, _, _, rfl, pqr⟩ := pq (by omega)
                have pqr' : H4.row pqi = some ⟨2, true, ints ((plM n M R i k).getD i [])⟩ := pqr
                rw [hMl] at hmv
                rw [hpl] at hpv
                have hml3 := hMr (R.getD i 0).toNat (by omega)
                try simp (disch := first | omega | (simp only [L3] <;> omega)) only [Sall,evalOp,init,binA_s,binE,binI,unE,convE,okNil,builtE,gv,TD.isAgg,resV,↓reduceIte,Nat.reduceEqDiff,reduceCtorEq,Nat.reduceAdd,Nat.reduceMul,Nat.reduceLeDiff,za0,za1,Int.reduceEq,Int.reduceLT,Int.reduceLE,Nat.reduceLT,tiA,tiXA, h48, h47, h46, rrow4, k2]
                (repeat refine And.intro (by omega) ?_)
                try simp (disch := first | omega | (simp only [L3] <;> omega)) only [Sall,evalOp,init,binA_s,binE,binI,unE,convE,okNil,builtE,gv,TD.isAgg,resV,↓reduceIte,Nat.reduceEqDiff,reduceCtorEq,Nat.reduceAdd,Nat.reduceMul,Nat.reduceLeDiff,za0,za1,Int.reduceEq,Int.reduceLT,Int.reduceLE,Nat.reduceLT,tiA,tiXA, h48, h47, h46, rrow4, k2]
                refine zaR (by kernel_rfl) (by kernel_rfl) ?_
                try simp (disch := first | omega | (simp only [L3] <;> omega)) only [Sall,evalOp,init,binA_s,binE,binI,unE,convE,okNil,builtE,gv,TD.isAgg,resV,↓reduceIte,Nat.reduceEqDiff,reduceCtorEq,Nat.reduceAdd,Nat.reduceMul,Nat.reduceLeDiff,za0,za1,Int.reduceEq,Int.reduceLT,Int.reduceLE,Nat.reduceLT,tiA,tiXA, h48, h10, h11, h8, h9, hmv, mr, mx1, mqr', k3, hpv, pr, px1, pqr', hplr, hml3, mvl, pvl, zaH]
                (repeat refine And.intro (by omega) ?_)
                try simp (disch := first | omega | (simp only [L3] <;> omega)) only [Sall,evalOp,init,binA_s,binE,binI,unE,convE,okNil,builtE,gv,TD.isAgg,resV,↓reduceIte,Nat.reduceEqDiff,reduceCtorEq,Nat.reduceAdd,Nat.reduceMul,Nat.reduceLeDiff,za0,za1,Int.reduceEq,Int.reduceLT,Int.reduceLE,Nat.reduceLT,tiA,tiXA, h48, h47, h46, h10, h11, h8, h9, h41, h40, h39, h2', h4, h7, hmv, mr, mx1, mqr', k3, hpv, pr, px1, pqr', hplr, hml3, mvl, pvl, zaH, w64]
                rw [hmv, hpv] at o4
                have o6 := o4.set2 4 rfl (j := i) (by omega) (l' := ((plM n M R i k).getD i []).set k ((M.getD (R.getD i 0).toNat []).getD (R.getD k 0).toNat 0)) (by simp) pr px1
                have hi1 : i < n := by omega
                have hk1 : k < n := by omega
                rw [plM_set M R hi1 hk1] at o6
                exact ⟨.inr (.inl (by kernel_rfl)), n - (k + 1), hz5, k + 1, rfl, hk5, rfl, o6⟩
              · have hke : k = n := by omega
                subst hke
                try simp (disch := first | omega | (simp only [L3] <;> omega)) only [Sall,evalOp,init,binA_s,binE,binI,unE,convE,okNil,builtE,gv,TD.isAgg,resV,↓reduceIte,Nat.reduceEqDiff,reduceCtorEq,Nat.reduceAdd,Nat.reduceMul,Nat.reduceLeDiff,za0,za1,Int.reduceEq,Int.reduceLT,Int.reduceLE,Nat.reduceLT,tiA,tiXA, h41, h40, h39, h2', h4, h7, h8, h9, w64]
                rw [plM_next] at o4
                exact ⟨k - (i + 1), by omega, i + 1, rfl, by omega, by omega, o4⟩
          · have hie : i = n := by omega
            subst hie
            have b3 := (o3.rowAt 0 rfl).2.2
            have g03 := (o3.rowAt 0 rfl).1
            have ne1 : ¬ H.next = H3.next + 1 := by omega
            have ne2 : ¬ H.next = H3.next := by omega
            have hcap : ∀ v ∈ [Value.pointer (some ⟨H.next, 0, none⟩), .pointer (some ⟨i7, 0, none⟩), .pointer (some ⟨H3.next, 0, none⟩), .pointer (some ⟨H3.next + 1, 0, none⟩)], v.oneCell' = true := by simp [Value.oneCell']
            try simp (disch := first | omega | (simp only [L3] <;> omega)) only [Sall,evalOp,init,binA_s,binE,binI,unE,convE,okNil,builtE,gv,TD.isAgg,resV,↓reduceIte,Nat.reduceEqDiff,reduceCtorEq,Nat.reduceAdd,Nat.reduceMul,Nat.reduceLeDiff,za0,za1,Int.reduceEq,Int.reduceLT,Int.reduceLE,Nat.reduceLT,tiA,tiXA, h2', h4, h7, h8, h9, g03, ne1, ne2]
            refine ⟨hcap, ?_⟩
            have o4 := (((o3.push ⟨69, true, ints (List.replicate 14 0)⟩).push ⟨4, true, [.bool false]⟩).putRow 6 rfl (cs' := ints (List.replicate 14 0))).putRow 7 rfl (cs' := [.bool false])
            obtain ⟨H6, e6⟩ : ∃ H6, H6 = (((H3.push ⟨69, true, ints (List.replicate 14 0)⟩).push ⟨4, true, [.bool false]⟩).setCells H3.next (ints (List.replicate 14 0))).setCells (H3.next + 1) [.bool false] := ⟨_, rfl⟩
            have n6 : H6.next = H3.next + 2 := by rw [e6]; rfl
            have o5 : Ow H H6 [.row H.next ⟨26, true, [.int .i64 i, v]⟩, .row (H.next + 1) ⟨69, true, ints (List.replicate 14 0)⟩, .sl 1 2 (.slice (some ⟨ri, 0, some 1⟩) i i) i (ints R), .sl2 (Value.int .i64) 33 2 mv M, .sl2 (Value.int .i64) 33 2 pv (plM i M R i 0), .row i7 ⟨33, true, [.slice (some ⟨ri, 0, some 1⟩) i i]⟩, .row H3.next ⟨69, true, ints (List.replicate 14 0)⟩, .row (H3.next + 1) ⟨4, true, [.bool false]⟩] := by rw [e6]; exact o4
            rw [← e6]
            clear e6 o4
            have q0 := o5.rowAt 0 rfl
            have q2 := o5.getV 2 rfl
            have q5 := o5.rowAt 5 rfl
            have q6 := o5.rowAt 6 rfl
            have q7 := o5.rowAt 7 rfl
            have d06 := o5.ne (j := 0) (k := 6) rfl rfl (by omega) (fun S h => h.1) (fun S h => h.1)
            have d07 := o5.ne (j := 0) (k := 7) rfl rfl (by omega) (fun S h => h.1) (fun S h => h.1)
            have d16 := o5.ne (j := 1) (k := 6) rfl rfl (by omega) (fun S h => h.1) (fun S h => h.1)
            have d17 := o5.ne (j := 1) (k := 7) rfl rfl (by omega) (fun S h => h.1) (fun S h => h.1)
            have d56 := o5.ne (j := 5) (k := 6) rfl rfl (by omega) (fun S h => h.1) (fun S h => h.1)
            have d57 := o5.ne (j := 5) (k := 7) rfl rfl (by omega) (fun S h => h.1) (fun S h => h.1)
            have d26 := o5.ne (j := 2) (k := 6) rfl rfl (by omega) (fun S h => sl_mem S h) (fun S h => h.1)
            have d27 := o5.ne (j := 2) (k := 7) rfl rfl (by omega) (fun S h => sl_mem S h) (fun S h => h.1)
            have hpone := (o5.rd2 4 rfl).one
            have hC : CallOk i (plM i M R i 0) pv 169 [.pointer (some ⟨H.next, 0, none⟩), .pointer (some ⟨i7, 0, none⟩), .pointer (some ⟨H3.next, 0, none⟩), .pointer (some ⟨H3.next + 1, 0, none⟩)] H6.next (nxInv i R H3.next (H3.next + 1) H6) (fun (_ : Option (List Int)) r => (false, some r)) := by
              refine ⟨by omega, zgX _ _ _ _ _, fun a ha => plM_rl _ _ _ _ ha, fun s Ha Hb hI hs => ⟨fun j j1 j2 j3 => by rw [hs j j1, hI.1 j j1 j2 j3], by rw [hs _ q6.2.2]; exact hI.2.1, by rw [hs _ q7.2.2]; exact hI.2.2⟩, fun s Ha hI => rd2_but o5 4 6 7 rfl rfl rfl (by omega) (by omega) hI.1, fun s r Ha hI hb hsc hr => ?_⟩
              obtain ⟨hI1, hI2, hI3⟩ := hI
              have rr : Rd 1 Ha (.slice (some ⟨ri, 0, some 1⟩) i i) i R := Fr.rd (ty := 2) (lo := 0) (hi := ri + 1) ⟨by omega, .inr ⟨ri, Nat.zero_le _, Nat.lt_succ_self _, rfl, by rw [hI1 ri q2.2.1 d26 d27]; exact q2.2.2⟩⟩
              refine (nextIn_c i v _ r R _ _ H.next i7 H3.next (H3.next + 1) Ha (by omega) hperm hr hone rr (outS_length i R s) (by rw [hI1 _ q0.2.2 d06 d07]; exact q0.1) (by rw [hI1 _ q5.2.2 d56 d57]; exact q5.1) hI2 hI3 (by omega)).mono ?_
              rintro w Hb ⟨w1, w2, w3, w4, w5, w6⟩
              refine ⟨w1, ⟨fun j j1 j2 j3 => by rw [w4 j (by omega) j2 j3, hI1 j j1 j2 j3], w5, w6⟩, w2, w3, fun j j1 j2 => w4 j j2 (by omega) (by omega)⟩
            refine (rounds_c none H6 hC ⟨fun _ _ _ _ => rfl, q6.1, q7.1⟩ hpone).fin ?_
            have hls : matF i (mtM (plM i M R i 0)) (i + 1) (freeL i) 0 = Q := by
              rw [hnq]
              exact zgP (fun a b ha hb => by unfold mtM; rw [plM_get M R ha hb]) _ _ _ (Nat.zero_le _)
            rw [hls, fold_head]
            rintro H7 ⟨⟨hI1, hI2, hI3⟩, hn7, hs7⟩
            have r1 : H7.row (H.next + 1) = some ⟨69, true, ints (List.replicate 14 0)⟩ := by
              have q1 := o5.rowAt 1 rfl
              rw [hI1 _ q1.2.2 d16 d17]; exact q1.1
            have hup : Up H.next H H7 := ⟨by omega, fun j hj => by rw [hI1 j (by omega) (by omega) (by omega), o5.low j hj]⟩
            have hlen := zcR i R Q
            have hout : outS i R Q.head? = headR i R Q := by unfold headR; cases Q.head? <;> rfl
            have hB0 : Q.head?.isSome = headB Q := rfl
            rw [hout] at hI2
            rw [hB0] at hI3
            have hz2 := hzl Q
            rw [hr0]
            generalize headR i R Q = hdR at hI2 hlen hz2 ⊢
            obtain hB | hB : headB Q = true ∨ headB Q = false := by cases headB Q <;> simp
            · rw [hB] at hI3
              rw [if_pos hB] at hn0
              rw [hn0]
              refine Holds.mp ?_
              try simp (disch := first | omega | (simp only [L3] <;> omega)) only [Sall,evalOp,init,binA_s,binE,binI,unE,convE,okNil,builtE,gv,TD.isAgg,resV,↓reduceIte,Nat.reduceEqDiff,reduceCtorEq,Nat.reduceAdd,Nat.reduceMul,Nat.reduceLeDiff,za0,za1,Int.reduceEq,Int.reduceLT,Int.reduceLE,Nat.reduceLT,tiA,tiXA, h4, hI3, hI2, r1, hlen]
              exact hup.set (by omega) _
            · rw [hB] at hI3
              rw [if_neg (by rw [hB]; simp)] at hn0
              have hz3 := hz2 hB
              rw [hn0]
              rw [hz3]
              refine Holds.mp ?_
              try simp (disch := first | omega | (simp only [L3] <;> omega)) only [Sall,evalOp,init,binA_s,binE,binI,unE,convE,okNil,builtE,gv,TD.isAgg,resV,↓reduceIte,Nat.reduceEqDiff,reduceCtorEq,Nat.reduceAdd,Nat.reduceMul,Nat.reduceLeDiff,za0,za1,Int.reduceEq,Int.reduceLT,Int.reduceLE,Nat.reduceLT,tiA,tiXA, h4, hI3, r1]
              exact hup.set (by omega) _
  · have ec := zcH hok
    have ec1 : ¬ codeS q k l (resB q.toNat k l ll) = 0 := bne_iff_ne.1 ec
    have ec2 : (codeS q k l (resB q.toNat k l ll) == 0) = false := beq_eq_false_iff_ne.2 ec1
    rw [if_neg ec1] at hn0 hr0
    rw [hn0, hr0]
    try simp (disch := first | omega | (simp only [L3] <;> omega)) only [Sall,evalOp,init,binA_s,binE,binI,unE,convE,okNil,builtE,gv,TD.isAgg,resV,↓reduceIte,Nat.reduceEqDiff,reduceCtorEq,Nat.reduceAdd,Nat.reduceMul,Nat.reduceLeDiff,za0,za1,Int.reduceEq,Int.reduceLT,Int.reduceLE,Nat.reduceLT,tiA,tiXA, ec, ec2, g0, g1]
    exact (o1.putRow 1 rfl (cs' := ints (List.replicate 14 0))).up
end Go.Proofs.YtpienljnoaendaaGreat.A
end

section
namespace Go.Abs
theorem addAt_at {l : List Int} {a : Nat} {z : Int} (h : a < l.length) (hb : -1000000000 ≤ l.getD a 0 + z ∧ l.getD a 0 + z ≤ 1000000000) : (addAt l a z).getD a 0 = l.getD a 0 + z := by
  unfold addAt
  rw [Int.toNat_natCast, zbG _ _ _ _ h]
  exact w64 ⟨by omega, by omega⟩
theorem addAt_ne {l : List Int} {a b : Nat} {z : Int} (h : b ≠ a) : (addAt l a z).getD b 0 = l.getD b 0 := by
  unfold addAt
  rw [Int.toNat_natCast, zb7 _ _ _ _ _ (by omega)]
/-! Sums of points. -/
theorem meets_team {n : Nat} {l : List Int} {ll : List (List Int)} : ∀ m, (∀ i, i < m → roundB n (rnd l i) = true) → ∀ e ∈ meets n l ll m, 0 ≤ e.2.1 ∧ e.2.1 < (n : Int) := by
  intro m hr e he
  unfold meets zaL at he
  rw [List.mem_flatMap] at he
  obtain ⟨i, hi, he⟩ := he
  rw [List.mem_flatMap] at he
  obtain ⟨j, hj, he⟩ := he
  have hi := List.mem_range.1 hi
  have hj := List.mem_range.1 hj
  obtain ⟨x, h1, h2, h3⟩ := zbD (rnd l i) n j hj
  obtain ⟨_, h4, h5, _⟩ := zb3 (hr i hi) (a := x) (by omega)
  rw [h3] at he
  unfold evPair at he
  simp only [List.mem_cons, List.not_mem_nil, or_false] at he
  rcases he with rfl | rfl
  · show 0 ≤ (x : Int) ∧ (x : Int) < n
    omega
  · exact ⟨h4, h5⟩
/-! Rankings fall. -/
end Go.Abs
end

section
namespace Go.Abs
/-! ### Rounds found by matching -/
structure MInv (n : Nat) (mt : Nat → Nat → Bool) (now : List Int) (a : Nat) : Prop where
  ok : NowOk n now
  inv : ∀ j, j < n → now.getD (now.getD j 0).toNat 0 = (j : Int)
  met : ∀ j, j < a → j < n → now.getD j 0 ≠ (j : Int)
  may : ∀ i j : Nat, i < j → j < n → now.getD i 0 = (j : Int) → mt i j = false
theorem minv_meet {n : Nat} {mt : Nat → Nat → Bool} {now : List Int} {c b : Nat} (hn : n ≤ 14) (h : MInv n mt now c) (hcb : c < b) (hb : b < n) (hc : now.getD c 0 = (c : Int)) (hb0 : now.getD b 0 = (b : Int)) (hm : mt c b = false) : MInv n mt (meetN now c b) (c + 1) := by
  have hg := zdS (now := now) (a := c) (b := b) h.ok.1 (by omega) (by omega)
  have other : ∀ j, j < n → j ≠ b → j ≠ c → now.getD j 0 ≠ (b : Int) ∧ now.getD j 0 ≠ (c : Int) := fun j hj h1 h2 => by
    have hi := h.inv j hj
    refine ⟨fun e => ?_, fun e => ?_⟩
    · rw [e, Int.toNat_natCast, hb0] at hi; omega
    · rw [e, Int.toNat_natCast, hc] at hi; omega
  refine ⟨h.ok.meet hn (by omega) hb, fun j hj => ?_, fun j hj hjn => ?_, fun i j hij hj e => ?_⟩
  · rw [hg j]
    by_cases e1 : j = b
    · rw [if_pos e1, Int.toNat_natCast, hg c, if_neg (by omega), if_pos rfl, e1]
    · rw [if_neg e1]
      by_cases e2 : j = c
      · rw [if_pos e2, Int.toNat_natCast, hg b, if_pos rfl, e2]
      · rw [if_neg e2]
        have ho := other j hj e1 e2
        have hr := h.ok.2 j hj
        rw [hg, if_neg (by omega), if_neg (by omega), h.inv j hj]
  · rw [hg j]
    by_cases e1 : j = b
    · rw [if_pos e1]; omega
    · rw [if_neg e1]
      by_cases e2 : j = c
      · rw [if_pos e2]; omega
      · rw [if_neg e2]; exact h.met j (by omega) hjn
  · rw [hg i] at e
    by_cases e1 : i = b
    · rw [if_pos e1] at e; omega
    · rw [if_neg e1] at e
      by_cases e2 : i = c
      · rw [if_pos e2] at e
        obtain rfl : j = b := by omega
        rw [e2]; exact hm
      · rw [if_neg e2] at e; exact h.may i j hij hj e
theorem matF_all {n : Nat} {mt : Nat → Nat → Bool} (hn : n ≤ 14) : ∀ (f : Nat) (now : List Int) (a : Nat), a ≤ n → MInv n mt now a → ∀ x, x ∈ matF n mt f now a → MInv n mt x n
  | 0, now, a, ha, h, x, hx => by simp [matF] at hx
  | f + 1, now, a, ha, h, x, hx => by
    have hge := zgQ now (n - a) a
    have hmet := zh5 now (n - a) a
    have hfree := fstF_free now (n - a) a
    unfold matF at hx
    generalize fstF now (n - a) a = c at hx hge hmet hfree
    have hc : MInv n mt now c := ⟨h.ok, h.inv, fun j hj hjn => by
      by_cases e : j < a
      · exact h.met j e hjn
      · exact hmet j (by omega) hj, h.may⟩
    by_cases e : c = n
    · rw [if_pos e] at hx
      rw [List.mem_singleton] at hx
      have h2 := hc
      rw [e] at h2
      rw [hx]; exact h2
    · rw [if_neg e, List.mem_flatMap] at hx
      obtain ⟨b, hb, hx⟩ := hx
      rw [List.mem_range'_1] at hb
      unfold matB at hx
      by_cases e2 : now.getD b 0 ≠ (b : Int) ∨ mt c b = true
      · rw [if_pos e2] at hx; simp at hx
      · rw [if_neg e2] at hx
        have h1 : now.getD b 0 = (b : Int) := Decidable.byContradiction fun h => e2 (.inl h)
        have h2 : mt c b = false := by cases h : mt c b with
          | false => rfl
          | true => exact absurd (.inr h) e2
        exact matF_all hn f _ _ (by omega) (minv_meet hn hc (by omega) (by omega) (hfree (by omega)) h1 h2) x hx
structure NextF (n : Nat) (meet : Nat → Nat → Bool) (r : List Int) : Prop where
  ok : roundB n r = true
  no : ∀ p, p < n → r.getD p 0 ≠ (p : Int)
  may : ∀ p, p < n → meet p (r.getD p 0).toNat = false
theorem nextF {n : Nat} {R now : List Int} {mt meet : Nat → Nat → Bool} (hn : 2 ≤ n ∧ n ≤ 14) (hp : PermN n R) (hs : ∀ a b, a < n → b < n → meet a b = meet b a) (hm : ∀ i j, i < n → j < n → mt i j = meet (R.getD i 0).toNat (R.getD j 0).toNat) (h : MInv n mt now n) : NextF n meet (renF R now n) := by
  have hg := zf2 (now := now) hn.2 hp n (Nat.le_refl _)
  have hh := zhU (now := now) hn.2 hp n (Nat.le_refl _)
  have key : ∀ p, p < n → ∃ j, j < n ∧ R.getD j 0 = (p : Int) ∧ (renF R now n).getD p 0 = R.getD (now.getD j 0).toNat 0 := fun p hpn => by
    obtain ⟨j, hj, e⟩ := hp.sur p hpn
    refine ⟨j, hj, e, ?_⟩
    have := hg j hj
    rw [e, Int.toNat_natCast] at this
    exact this
  refine ⟨ze0 ⟨by omega, by omega⟩ fun p hp14 => ?_, fun p hpn e => ?_, fun p hpn => ?_⟩
  · unfold okAt
    by_cases hpn : p < n
    · rw [if_neg (by omega)]
      obtain ⟨j, hj, e, e2⟩ := key p hpn
      have hr := h.ok.2 j hj
      have hr2 := hp.rng (now.getD j 0).toNat (by omega)
      have hb := hg (now.getD j 0).toNat (by omega)
      rw [h.inv j hj, Int.toNat_natCast, e] at hb
      rw [e2, hb, Bool.and_eq_true]
      exact ⟨decide_eq_true ⟨by omega, by omega⟩, beq_self_eq_true _⟩
    · rw [if_pos (by omega), hh p (by omega)]; rfl
  · obtain ⟨j, hj, e1, e2⟩ := key p hpn
    rw [e2, ← e1] at e
    have hr := h.ok.2 j hj
    have := hp.inj _ j (by omega) hj e
    exact h.met j hj hj (by omega)
  · obtain ⟨j, hj, e1, e2⟩ := key p hpn
    have hr := h.ok.2 j hj
    have hne := h.met j hj hj
    rw [e2]
    by_cases hlt : j < (now.getD j 0).toNat
    · have := h.may j (now.getD j 0).toNat hlt (by omega) (by omega)
      rw [hm j _ hj (by omega), e1, Int.toNat_natCast] at this
      exact this
    · have := h.may (now.getD j 0).toNat j (by omega) hj (h.inv j hj)
      have hr2 := hp.rng (now.getD j 0).toNat (by omega)
      rw [hm _ j (by omega) hj, e1, Int.toNat_natCast, hs _ _ (by omega) hpn] at this
      exact this
/-! ### Points of a team, round by round -/
theorem zfS {n a : Nat} {r : List Int} (hr : roundB n r = true) (ha : a < n) (q : List Int → Bool) (hq : ∀ x : Nat, x < n → (x : Int) < r.getD x 0 → q [(x : Int), r.getD x 0] = true → x = a ∨ x = (r.getD a 0).toNat) : (pairsL r n).countP q ≤ 1 := by
  obtain ⟨_, g1, g2, g3⟩ := zb3 hr (a := a) (by omega)
  unfold pairsL
  rw [List.countP_map, List.countP_filter]
  by_cases hc : (a : Int) < r.getD a 0
  · refine Nat.le_trans (List.countP_mono_left (q := fun x => x == a) fun x hx h => ?_) ?_
    · have hx := List.mem_range.1 hx
      rw [Bool.and_eq_true] at h
      have h2 := of_decide_eq_true h.2
      rcases hq x hx h2 h.1 with e | e
      · rw [e]; exact beq_self_eq_true _
      · rw [e, g3] at h2; omega
    · have := List.nodup_range (n := n)
      have h2 : (List.range n).count a ≤ 1 := List.nodup_iff_count.1 this a
      exact h2
  · refine Nat.le_trans (List.countP_mono_left (q := fun x => x == (r.getD a 0).toNat) fun x hx h => ?_) ?_
    · have hx := List.mem_range.1 hx
      rw [Bool.and_eq_true] at h
      have h2 := of_decide_eq_true h.2
      rcases hq x hx h2 h.1 with e | e
      · rw [e] at h2; exact absurd h2 hc
      · rw [e]; exact beq_self_eq_true _
    · have := List.nodup_range (n := n)
      have h2 : (List.range n).count (r.getD a 0).toNat ≤ 1 := List.nodup_iff_count.1 this _
      exact h2
def teamE (a : Nat) (e : Ev) : Bool := decide (e.2.1 = (a : Int))
theorem zi8 {n a : Nat} (ha : a < n) : ∀ (es : List Ev) (l : List Int) (B : Nat), l.length = n → (∀ e ∈ es, 0 ≤ e.2.1 ∧ e.2.1 < (n : Int) ∧ 0 ≤ e.2.2.2 ∧ e.2.2.2 ≤ 2) → (∀ j, 0 ≤ l.getD j 0 ∧ l.getD j 0 ≤ B) → B + 2 * es.length ≤ 1000000 →
    (es.foldl (fun l e => addAt l e.2.1 e.2.2.2) l).getD a 0 = l.getD a 0 + ((es.filter (teamE a)).map fun e => e.2.2.2).sum
  | [], l, B, _, _, _, _ => by simp
  | e :: es, l, B, hl, he, h, hB => by
    rw [List.foldl_cons]
    rw [List.length_cons] at hB
    have he0 := he e List.mem_cons_self
    have h1 := zg1 (a := e.2.1) h he0.2.2 (by omega)
    have ih := zi8 ha es (addAt l e.2.1 e.2.2.2) (B + 2) (by rw [zcT]; exact hl) (fun x hx => he x (List.mem_cons_of_mem _ hx)) h1 (by omega)
    rw [ih, List.filter_cons]
    obtain ⟨t, ht⟩ : ∃ t : Nat, e.2.1 = t := ⟨e.2.1.toNat, by omega⟩
    by_cases c : t = a
    · have ce : teamE a e = true := decide_eq_true (by rw [ht, c])
      have hb := h a
      rw [if_pos ce, List.map_cons, List.sum_cons, ht, c, addAt_at (by omega) (by omega)]
      omega
    · have ce : teamE a e = false := decide_eq_false (by rw [ht]; omega)
      rw [ce, ht, addAt_ne (fun h => c h.symm)]
      simp
theorem zfB {n i a : Nat} {r x : List Int} (hr : roundB n r = true) : ∀ k, k ≤ (pairsL r n).length → ((zaL n i r x k).filter (teamE a)).length = ((pairsL r n).take k).countP fun p => decide (p.getD 0 0 = (a : Int) ∨ p.getD 1 0 = (a : Int))
  | 0, _ => by simp [zaL]
  | k + 1, hk => by
    have ih := zfB (i := i) (a := a) (x := x) hr k (by omega)
    obtain ⟨y, h1, h2, h3⟩ := zbD r n k (by omega)
    rw [zbL, List.filter_append, List.length_append, ih, take_snoc (pairsL r n) [] k (by omega), List.countP_append, h3]
    unfold evPair
    congr 1
    have tt : ∀ w v u, teamE a (w, v, u) = decide (v = (a : Int)) := fun _ _ _ => rfl
    have tq : ([[(y : Int), r.getD y 0]] : List (List Int)).countP (fun p => decide (p.getD 0 0 = (a : Int) ∨ p.getD 1 0 = (a : Int))) = if (y : Int) = (a : Int) ∨ r.getD y 0 = (a : Int) then 1 else 0 := by
      rw [List.countP_cons, List.countP_nil]
      simp only [List.getD_cons_zero, List.getD_cons_succ, decide_eq_true_eq, Nat.zero_add]
    show (List.filter (teamE a) [(i, (y : Int), r.getD y 0, wonI (x.getD k 0)), (i, r.getD y 0, (y : Int), 2 - wonI (x.getD k 0))]).length = _
    rw [tq]
    by_cases c1 : (y : Int) = (a : Int)
    · rw [List.filter_cons_of_pos (by rw [tt]; exact decide_eq_true c1), List.filter_cons_of_neg (by rw [tt, decide_eq_false (by omega)]; simp), List.filter_nil, if_pos (.inl c1)]
      rfl
    · by_cases c2 : r.getD y 0 = (a : Int)
      · rw [List.filter_cons_of_neg (by rw [tt, decide_eq_false c1]; simp), List.filter_cons_of_pos (by rw [tt]; exact decide_eq_true c2), List.filter_nil, if_pos (.inr c2)]
        rfl
      · rw [List.filter_cons_of_neg (by rw [tt, decide_eq_false c1]; simp), List.filter_cons_of_neg (by rw [tt, decide_eq_false c2]; simp), List.filter_nil, if_neg (fun h => h.elim c1 c2)]
        rfl
theorem pairs_team {n a : Nat} {r : List Int} (hr : roundB n r = true) (ha : a < n) : ((pairsL r n).countP fun p => decide (p.getD 0 0 = (a : Int) ∨ p.getD 1 0 = (a : Int))) ≤ 1 := by
  refine zfS hr ha _ fun x hx hlt h => ?_
  have h := of_decide_eq_true h
  simp only [List.getD_cons_zero, List.getD_cons_succ] at h
  rcases h with h | h
  · exact .inl (by omega)
  · obtain ⟨_, g1, g2, g3⟩ := zb3 hr (a := x) (by omega)
    rw [h, Int.toNat_natCast] at g3
    exact .inr (by omega)
theorem sums_grow {n k : Nat} {l : List Int} {ll : List (List Int)} (hb : schedB n k l = true) (hk : ll.length ≤ k) {i a : Nat} (hi : i < ll.length) (ha : a < n) :
    (sumsF n (fun _ o => o) (meets n l ll i)).getD a 0 ≤ (sumsF n (fun _ o => o) (meets n l ll (i + 1))).getD a 0 ∧ (sumsF n (fun _ o => o) (meets n l ll (i + 1))).getD a 0 ≤ (sumsF n (fun _ o => o) (meets n l ll i)).getD a 0 + 2 := by
  obtain ⟨q1, q2, q3⟩ := zaC hb
  have hrd := q3 i (by omega)
  have key : ∀ m, m ≤ ll.length → (sumsF n (fun _ o => o) (meets n l ll m)).getD a 0 = (((meets n l ll m).filter (teamE a)).map fun e => e.2.2.2).sum := fun m hm => by
    have h1 := zgI n (by omega) l ll m
    have hown := zg3 n l ll m
    have htm := meets_team (n := n) (l := l) (ll := ll) m fun i hi => q3 i (by omega)
    unfold sumsF
    have := zi8 (n := n) ha (meets n l ll m) (List.replicate n 0) 0 (by simp) (fun e he => ⟨(htm e he).1, (htm e he).2, hown e he⟩) (fun j => by
      rw [List.getD_eq_getElem?_getD, List.getElem?_replicate]; split <;> simp) (by omega)
    rw [this]
    have h0 : (List.replicate n (0 : Int)).getD a 0 = 0 := by
      rw [List.getD_eq_getElem?_getD, List.getElem?_replicate]; split <;> rfl
    rw [h0]; omega
  rw [key i (by omega), key (i + 1) (by omega), zbH, List.filter_append, List.map_append, List.sum_append]
  have hl := zfB (i := i) (a := a) (x := ll.getD i []) hrd _ (Nat.le_refl _)
  rw [List.take_length] at hl
  have hc := pairs_team hrd ha
  rw [← hl] at hc
  have hown : ∀ e ∈ (zaL n i (rnd l i) (ll.getD i []) (pairsL (rnd l i) n).length).filter (teamE a), 0 ≤ e.2.2.2 ∧ e.2.2.2 ≤ 2 := fun e he => by
    have he := (List.mem_filter.1 he).1
    refine zg3 n l ll (i + 1) e ?_
    rw [zbH]
    exact List.mem_append.2 (.inr he)
  generalize (zaL n i (rnd l i) (ll.getD i []) (pairsL (rnd l i) n).length).filter (teamE a) = F at hc hown
  match F, hc, hown with
  | [], _, _ =>
    simp only [List.map_nil, List.sum_nil]
    omega
  | [e], _, h =>
    have := h e List.mem_cons_self
    simp only [List.map_cons, List.map_nil, List.sum_cons, List.sum_nil]
    omega
  | _ :: _ :: _, h, _ => simp at h
/-! ### Points of two teams -/
def rbL (l : List Int) (a : Nat) (b : Int) : Nat → List Int
  | 0 => []
  | i + 1 => rbL l a b i ++ if (rnd l i).getD a 0 = b then [(i : Int)] else []
theorem zdG (l : List Int) (a : Nat) (b : Int) (i : Nat) : rbL l a b (i + 1) = rbL l a b i ++ if (rnd l i).getD a 0 = b then [(i : Int)] else [] := rfl
theorem rbL_len (l : List Int) (a : Nat) (b : Int) : ∀ m, (rbL l a b m).length ≤ m
  | 0 => Nat.le_refl _
  | m + 1 => by
    have := rbL_len l a b m
    unfold rbL
    rw [List.length_append]
    split <;> simp <;> omega
theorem ziB {n i a b : Nat} {r x : List Int} (hr : roundB n r = true) (ha : a < n) (hb : b < n) (hab : a ≠ b) (es : List Ev) (B : Nat) (h1 : 0 ≤ (btw a b es).1 ∧ (btw a b es).1 ≤ B) (h2 : 0 ≤ (btw a b es).2 ∧ (btw a b es).2 ≤ B) (hB : B ≤ 100000) (hn : n ≤ 14) :
    ∀ k, k ≤ (pairsL r n).length → (0 ≤ (btw a b (es ++ zaL n i r x k)).1 ∧ (btw a b (es ++ zaL n i r x k)).1 ≤ (B + 2 * k : Nat)) ∧ (0 ≤ (btw a b (es ++ zaL n i r x k)).2 ∧ (btw a b (es ++ zaL n i r x k)).2 ≤ (B + 2 * k : Nat)) ∧
      (btw a b (es ++ zaL n i r x k)).1 + (btw a b (es ++ zaL n i r x k)).2 = (btw a b es).1 + (btw a b es).2 + 2 * ((((pairsL r n).take k).countP fun p => decide ((p.getD 0 0 = (a : Int) ∧ p.getD 1 0 = (b : Int)) ∨ (p.getD 0 0 = (b : Int) ∧ p.getD 1 0 = (a : Int)))) : Nat)
  | 0, _ => by
    rw [zc5, List.append_nil]
    exact ⟨⟨h1.1, by omega⟩, ⟨h2.1, by omega⟩, by simp⟩
  | k + 1, hk => by
    have hle := zbE r n
    obtain ⟨i1, i2, i3⟩ := ziB (i := i) (x := x) hr ha hb hab es B h1 h2 hB hn k (by omega)
    obtain ⟨y, g1, g2, g3⟩ := zbD r n k (by omega)
    have hw := wonI_range (x.getD k 0)
    have hpair := btw_pair (a := (a : Int)) (b := (b : Int)) (by omega) (es ++ zaL n i r x k) i (y : Int) (r.getD y 0) (wonI (x.getD k 0))
    have e : es ++ zaL n i r x (k + 1) = ((es ++ zaL n i r x k) ++ [(i, (y : Int), r.getD y 0, wonI (x.getD k 0))]) ++ [(i, r.getD y 0, (y : Int), 2 - wonI (x.getD k 0))] := by
      rw [zbL, g3]
      unfold evPair
      simp
    rw [e, hpair, take_snoc (pairsL r n) [] k (by omega), List.countP_append, g3]
    simp only [List.countP_cons, List.countP_nil, List.getD_cons_zero, List.getD_cons_succ]
    by_cases c1 : (y : Int) = (a : Int) ∧ r.getD y 0 = (b : Int)
    · rw [if_pos c1, decide_eq_true (Or.inl c1)]
      dsimp only
      rw [show IntKind.i64.wrap ((btw a b (es ++ zaL n i r x k)).1 + wonI (x.getD k 0)) = _ from w64 ⟨by omega, by omega⟩, show IntKind.i64.wrap ((btw a b (es ++ zaL n i r x k)).2 + (2 - wonI (x.getD k 0))) = _ from w64 ⟨by omega, by omega⟩]
      simp only [if_true]
      omega
    · rw [if_neg c1]
      by_cases c2 : (y : Int) = (b : Int) ∧ r.getD y 0 = (a : Int)
      · rw [if_pos c2, decide_eq_true (Or.inr c2)]
        dsimp only
        rw [show IntKind.i64.wrap ((btw a b (es ++ zaL n i r x k)).1 + (2 - wonI (x.getD k 0))) = _ from w64 ⟨by omega, by omega⟩, show IntKind.i64.wrap ((btw a b (es ++ zaL n i r x k)).2 + wonI (x.getD k 0)) = _ from w64 ⟨by omega, by omega⟩]
        simp only [if_true]
        omega
      · rw [if_neg c2, decide_eq_false (fun h => h.elim c1 c2)]
        simp only [Bool.false_eq_true, if_false]
        omega
theorem pairs_two {n a b : Nat} {r : List Int} (hr : roundB n r = true) (ha : a < n) (hb : b < n) (hab : a ≠ b) : ((pairsL r n).countP fun p => decide ((p.getD 0 0 = (a : Int) ∧ p.getD 1 0 = (b : Int)) ∨ (p.getD 0 0 = (b : Int) ∧ p.getD 1 0 = (a : Int)))) = if r.getD a 0 = (b : Int) then 1 else 0 := by
  obtain ⟨_, g1, g2, g3⟩ := zb3 hr (a := a) (by omega)
  obtain ⟨_, f1, f2, f3⟩ := zb3 hr (a := b) (by omega)
  have hle : ((pairsL r n).countP fun p => decide ((p.getD 0 0 = (a : Int) ∧ p.getD 1 0 = (b : Int)) ∨ (p.getD 0 0 = (b : Int) ∧ p.getD 1 0 = (a : Int)))) ≤ 1 := by
    refine zfS hr ha _ fun x hx hlt h => ?_
    have h := of_decide_eq_true h
    simp only [List.getD_cons_zero, List.getD_cons_succ] at h
    rcases h with h | h
    · exact .inl (by omega)
    · obtain ⟨_, k1, k2, k3⟩ := zb3 hr (a := x) (by omega)
      rw [h.2, Int.toNat_natCast] at k3
      exact .inr (by omega)
  by_cases c : r.getD a 0 = (b : Int)
  · rw [if_pos c]
    rw [c, Int.toNat_natCast] at g3
    have hmem : ∃ p, p ∈ pairsL r n ∧ ((p.getD 0 0 = (a : Int) ∧ p.getD 1 0 = (b : Int)) ∨ (p.getD 0 0 = (b : Int) ∧ p.getD 1 0 = (a : Int))) := by
      unfold pairsL
      by_cases h : a < b
      · exact ⟨[(a : Int), r.getD a 0], List.mem_map.2 ⟨a, List.mem_filter.2 ⟨List.mem_range.2 ha, decide_eq_true (by omega)⟩, rfl⟩, .inl ⟨rfl, c⟩⟩
      · exact ⟨[(b : Int), r.getD b 0], List.mem_map.2 ⟨b, List.mem_filter.2 ⟨List.mem_range.2 hb, decide_eq_true (by omega)⟩, rfl⟩, .inr ⟨rfl, g3⟩⟩
    obtain ⟨p, hp, h⟩ := hmem
    have : 0 < ((pairsL r n).countP fun p => decide ((p.getD 0 0 = (a : Int) ∧ p.getD 1 0 = (b : Int)) ∨ (p.getD 0 0 = (b : Int) ∧ p.getD 1 0 = (a : Int)))) := List.countP_pos_iff.2 ⟨p, hp, decide_eq_true h⟩
    omega
  · rw [if_neg c]
    refine List.countP_eq_zero.2 fun p hp h => ?_
    have h := of_decide_eq_true h
    unfold pairsL at hp
    obtain ⟨x, hx, rfl⟩ := List.mem_map.1 hp
    obtain ⟨hx1, hx2⟩ := List.mem_filter.1 hx
    have hx1 := List.mem_range.1 hx1
    simp only [List.getD_cons_zero, List.getD_cons_succ] at h
    rcases h with ⟨e1, e2⟩ | ⟨e1, e2⟩
    · obtain rfl : x = a := by omega
      exact c e2
    · obtain rfl : x = b := by omega
      rw [e2, Int.toNat_natCast] at f3
      exact c f3
theorem btw_meets {n k a b : Nat} {l : List Int} {ll : List (List Int)} (hb : schedB n k l = true) (ha : a < n) (hbn : b < n) (hab : a ≠ b) : ∀ m, m ≤ k → (0 ≤ (btw a b (meets n l ll m)).1 ∧ (btw a b (meets n l ll m)).1 ≤ (28 * m : Nat)) ∧ (0 ≤ (btw a b (meets n l ll m)).2 ∧ (btw a b (meets n l ll m)).2 ≤ (28 * m : Nat)) ∧ (btw a b (meets n l ll m)).1 + (btw a b (meets n l ll m)).2 = 2 * ((rbL l a b m).length : Nat)
  | 0, _ => by
    rw [zbW, btw_nil]
    exact ⟨⟨Int.le_refl _, Int.le_refl _⟩, ⟨Int.le_refl _, Int.le_refl _⟩, rfl⟩
  | m + 1, hm => by
    obtain ⟨q1, q2, q3⟩ := zaC hb
    obtain ⟨i1, i2, i3⟩ := btw_meets hb ha hbn hab m (by omega)
    have hr := q3 m (by omega)
    have hle := zbE (rnd l m) n
    have := ziB (i := m) (x := ll.getD m []) hr ha hbn hab (meets n l ll m) (28 * m) i1 i2 (by omega) (by omega) _ (Nat.le_refl _)
    rw [List.take_length, pairs_two hr ha hbn hab, ← zbH] at this
    obtain ⟨j1, j2, j3⟩ := this
    refine ⟨⟨j1.1, by omega⟩, ⟨j2.1, by omega⟩, ?_⟩
    rw [j3, i3, zdG, List.length_append]
    by_cases c : (rnd l m).getD a 0 = (b : Int)
    · rw [if_pos c, if_pos c]; simp; omega
    · rw [if_neg c, if_neg c]; simp
end Go.Abs
end

section
set_option maxRecDepth 100000
set_option maxHeartbeats 2000000
namespace Go.Proofs.YtpienljnoaendaaGreat.A
open Go Go.Abs Go.RowKit
def rbR (q : Int) (k : Nat) (l : List Int) (a b : Int) : List Int := if schedB q k l = true ∧ twoB q a b = true then rbL l a.toNat b k else []
theorem rb1_c (q : Int) (v : Value) (a b : Int) (p0 p1 p2 : Nat) (H : AH) (hq : 2 ≤ q ∧ q ≤ 14) (hone : v.oneCell' = true) (h0 : H.row p0 = some ⟨26, true, [.int .i64 q, v]⟩) (h1 : H.row p1 = some ⟨2, true, [.int .i64 a]⟩) (h2 : H.row p2 = some ⟨2, true, [.int .i64 b]⟩) :
    ACalls Tryz.prog 187 [.pointer (some ⟨p0, 0, none⟩), .pointer (some ⟨p1, 0, none⟩), .pointer (some ⟨p2, 0, none⟩)] H (is (.bool (twoB q a b)) H) := by
  unfold twoB
  refine za3 [.tmp 3] Tryz.func187 (by kernel_rfl) rfl rfl (Nat.le_of_ble_eq_true rfl) (by kernel_rfl) ?_
  try simp (disch := first | omega | (simp only [L3] <;> omega)) only [Sall,evalOp,init,binA_s,binE,binI,unE,convE,okNil,builtE,gv,TD.isAgg,resV,↓reduceIte,Nat.reduceEqDiff,reduceCtorEq,Nat.reduceAdd,Nat.reduceMul,Nat.reduceLeDiff,za0,za1,Int.reduceEq,Int.reduceLT,Int.reduceLE,Nat.reduceLT,tiA,tiXA, h0, h1, hone]
  refine (zd5 q v a H hq hone).to ?_
  refine Holds.mp ?_
  by_cases ha : 0 ≤ a ∧ a ≤ q - 1
  · try simp (disch := first | omega | (simp only [L3] <;> omega)) only [Sall,evalOp,init,binA_s,binE,binI,unE,convE,okNil,builtE,gv,TD.isAgg,resV,↓reduceIte,Nat.reduceEqDiff,reduceCtorEq,Nat.reduceAdd,Nat.reduceMul,Nat.reduceLeDiff,za0,za1,Int.reduceEq,Int.reduceLT,Int.reduceLE,Nat.reduceLT,tiA,tiXA, ha, decide_true, h0, h1, h2, hone]
    refine (zd5 q v b H hq hone).to ?_
    refine Holds.mp ?_
    by_cases hb : 0 ≤ b ∧ b ≤ q - 1
    · try simp (disch := first | omega | (simp only [L3] <;> omega)) only [Sall,evalOp,init,binA_s,binE,binI,unE,convE,okNil,builtE,gv,TD.isAgg,resV,↓reduceIte,Nat.reduceEqDiff,reduceCtorEq,Nat.reduceAdd,Nat.reduceMul,Nat.reduceLeDiff,za0,za1,Int.reduceEq,Int.reduceLT,Int.reduceLE,Nat.reduceLT,tiA,tiXA, hb, decide_true, h0, h1, h2, is]
      rw [decide_eq_true ha]; rfl
    · try simp (disch := first | omega | (simp only [L3] <;> omega)) only [Sall,evalOp,init,binA_s,binE,binI,unE,convE,okNil,builtE,gv,TD.isAgg,resV,↓reduceIte,Nat.reduceEqDiff,reduceCtorEq,Nat.reduceAdd,Nat.reduceMul,Nat.reduceLeDiff,za0,za1,Int.reduceEq,Int.reduceLT,Int.reduceLE,Nat.reduceLT,tiA,tiXA, hb, decide_false, h0, h1, h2, is]
      rw [decide_eq_true ha]; rfl
  · try simp (disch := first | omega | (simp only [L3] <;> omega)) only [Sall,evalOp,init,binA_s,binE,binI,unE,convE,okNil,builtE,gv,TD.isAgg,resV,↓reduceIte,Nat.reduceEqDiff,reduceCtorEq,Nat.reduceAdd,Nat.reduceMul,Nat.reduceLeDiff,za0,za1,Int.reduceEq,Int.reduceLT,Int.reduceLE,Nat.reduceLT,tiA,tiXA, ha, decide_false, h0, h1, h2, is, Bool.false_and]
theorem zdC (q : Int) (v : Value) (k : Nat) (l : List Int) (a b : Int) (H : AH) (hv : Rd 14 H v k l) (hk : k ≤ 4294967296) (ha : -9223372036854775808 ≤ a ∧ a ≤ 9223372036854775807) (hb : -9223372036854775808 ≤ b ∧ b ≤ 9223372036854775807) :
    ACalls Tryz.prog 64 [.agg #[.int .i64 q, v], .int .i64 a, .int .i64 b] H (fun r H' => ∃ u, r = .tuple #[u, .int .i64 (codeS q k l (twoB q a b))] ∧ Ow H H' [.sl 1 2 u (rbR q k l a b).length (ints (rbR q k l a b))]) := by
  refine ACalls.wf (by kernel_rfl) fun hs => za3 [.tmp 6, .tmp 7] Tryz.func64 (by kernel_rfl) rfl rfl (Nat.le_of_ble_eq_true rfl) (by kernel_rfl) ?_
  have hone := hv.one
  try simp (disch := first | omega | (simp only [L3] <;> omega)) only [Sall,evalOp,init,binA_s,binE,binI,unE,convE,okNil,builtE,gv,TD.isAgg,resV,↓reduceIte,Nat.reduceEqDiff,reduceCtorEq,Nat.reduceAdd,Nat.reduceMul,Nat.reduceLeDiff,za0,za1,Int.reduceEq,Int.reduceLT,Int.reduceLE,Nat.reduceLT,tiA,tiXA, hone]
  have o1 := (((Ow.refl hs).push ⟨26, true, [.int .i64 q, v]⟩).push ⟨2, true, [.int .i64 a]⟩).push ⟨2, true, [.int .i64 b]⟩
  have o1 : Ow H (((H.push ⟨26, true, [.int .i64 q, v]⟩).push ⟨2, true, [.int .i64 a]⟩).push ⟨2, true, [.int .i64 b]⟩) [.row H.next ⟨26, true, [.int .i64 q, v]⟩, .row (H.next + 1) ⟨2, true, [.int .i64 a]⟩, .row (H.next + 2) ⟨2, true, [.int .i64 b]⟩] := o1
  obtain ⟨pi, epi⟩ : ∃ pi, pi = H.next := ⟨_, rfl⟩
  rw [← epi] at o1 ⊢
  generalize ((H.push ⟨26, true, [.int .i64 q, v]⟩).push ⟨2, true, [.int .i64 a]⟩).push ⟨2, true, [.int .i64 b]⟩ = H1 at o1 ⊢
  have hv1 := hv.same (o1.old hs)
  have hvl := hv1.len
  have g0 := (o1.rowAt 0 rfl).1
  have g1 := (o1.rowAt 1 rfl).1
  have g2 := (o1.rowAt 2 rfl).1
  try simp (disch := first | omega | (simp only [L3] <;> omega)) only [Sall,evalOp,init,binA_s,binE,binI,unE,convE,okNil,builtE,gv,TD.isAgg,resV,↓reduceIte,Nat.reduceEqDiff,reduceCtorEq,Nat.reduceAdd,Nat.reduceMul,Nat.reduceLeDiff,za0,za1,Int.reduceEq,Int.reduceLT,Int.reduceLE,Nat.reduceLT,tiA,tiXA, g0, g1, g2, hone, List.mem_cons, List.not_mem_nil, or_false, forall_eq_or_imp, forall_eq, Array.size_empty]
  refine (zdK q v k l 187 [.pointer (some ⟨pi, 0, none⟩), .pointer (some ⟨pi + 1, 0, none⟩), .pointer (some ⟨pi + 2, 0, none⟩)] (twoB q a b) H1 hv1 hk ?_).to ?_
  · intro H' up' hb'
    obtain ⟨h2, _, _⟩ := zaC hb'
    have nx0 := (o1.rowAt 0 rfl).2.2
    have nx1 := (o1.rowAt 1 rfl).2.2
    have nx2 := (o1.rowAt 2 rfl).2.2
    exact rb1_c q v a b pi (pi + 1) (pi + 2) H' h2 hone (by rw [up'.row _ nx0]; exact g0) (by rw [up'.row _ nx1]; exact g1) (by rw [up'.row _ nx2]; exact g2)
  refine Holds.mp ?_
  unfold rbR
  by_cases hok : schedB q k l = true ∧ twoB q a b = true
  · have hC : codeS q k l (twoB q a b) = 0 := by unfold codeS; rw [if_pos hok.1, if_pos hok.2]
    have c0 : ((0 : Int) != 0) = false := rfl
    rw [if_pos hok]
    obtain ⟨h2, _, hrd⟩ := zaC hok.1
    have htw := hok.2
    unfold twoB at htw
    rw [Bool.and_eq_true, Bool.and_eq_true] at htw
    have ha2 := of_decide_eq_true htw.1.1
    obtain ⟨an, ean⟩ : ∃ an : Nat, a = an := ⟨a.toNat, by omega⟩
    have zz0 : zeros 0 [.int .i64 0] = ints [] := rfl
    have npi : ¬ pi = H1.next := by have := (o1.rowAt 0 rfl).2.2; omega
    try simp (disch := first | omega | (simp only [L3] <;> omega)) only [Sall,evalOp,init,binA_s,binE,binI,unE,convE,okNil,builtE,gv,TD.isAgg,resV,↓reduceIte,Nat.reduceEqDiff,reduceCtorEq,Nat.reduceAdd,Nat.reduceMul,Nat.reduceLeDiff,za0,za1,Int.reduceEq,Int.reduceLT,Int.reduceLE,Nat.reduceLT,tiA,tiXA, hC, c0, g0, hone, zz0, builtE, hvl, npi]
    have o2 := o1.pushSl (k := 1) (n := 0) (ty := 2) (vs := ints []) rfl
    refine za7 (fun z t H' => ∃ (i : Nat) (w : Value), z = k - i ∧ i ≤ k ∧ t 22 = .int .i64 i ∧ t 21 = .int .i64 k ∧ t 20 = v ∧ t 4 = .pointer (some ⟨pi + 1, 0, none⟩) ∧ t 5 = .pointer (some ⟨pi + 2, 0, none⟩) ∧ t 9 = w ∧ Ow H H' [.row pi ⟨26, true, [.int .i64 q, v]⟩, .row (pi + 1) ⟨2, true, [.int .i64 a]⟩, .row (pi + 2) ⟨2, true, [.int .i64 b]⟩, .sl 1 2 w (rbL l a.toNat b i).length (ints (rbL l a.toNat b i))]) k ?_ ?_
    · refine ⟨0, .slice (some ⟨H1.next, 0, some 1⟩) 0 0, by omega, by omega, ?_⟩
      try simp (disch := first | omega | (simp only [L3] <;> omega)) only [Sall,evalOp,init,binA_s,binE,binI,unE,convE,okNil,builtE,gv,TD.isAgg,resV,↓reduceIte,Nat.reduceEqDiff,reduceCtorEq,Nat.reduceAdd,Nat.reduceMul,Nat.reduceLeDiff,za0,za1,Int.reduceEq,Int.reduceLT,Int.reduceLE,Nat.reduceLT,tiA,tiXA, Int.natCast_zero]
      exact o2
    · rintro z t H2 ⟨i, w, hz, hi, h22, h21, h20, h4, h5, h9, o3⟩
      have hw := o3.one 3 rfl
      try simp (disch := first | omega | (simp only [L3] <;> omega)) only [Sall,evalOp,init,binA_s,binE,binI,unE,convE,okNil,builtE,gv,TD.isAgg,resV,↓reduceIte,Nat.reduceEqDiff,reduceCtorEq,Nat.reduceAdd,Nat.reduceMul,Nat.reduceLeDiff,za0,za1,Int.reduceEq,Int.reduceLT,Int.reduceLE,Nat.reduceLT,tiA,tiXA, h22, h21]
      refine za6 (fun hh => ?_) (fun hh => ?_)
      · obtain ⟨ci, co, cu, cc, cr, ev, c1, c2, c3, c4⟩ := (hv.same (o3.old hs)).get (show 0 < k by omega)
        have c5 := c4 (i * 14) 14 (by omega)
        have hr14 : ((l.drop (i * 14)).take 14).length = 14 := zbA l i k hv.1 (by omega)
        have er : (l.drop (i * 14)).take 14 = rnd l i := rfl
        rw [er] at hr14 c5
        have g1 := (o3.rowAt 1 rfl).1
        have g2 := (o3.rowAt 2 rfl).1
        have n1 := (o3.rowAt 1 rfl).2.2
        have n2 := (o3.rowAt 2 rfl).2.2
        have lg : co + i * 14 + 14 ≤ cr.cells.length := by omega
        rw [ev] at h20
        obtain ⟨r, er2⟩ : ∃ r, r = rnd l i := ⟨_, rfl⟩
        rw [← er2] at hr14 c5
        try simp (disch := first | omega | (simp only [L3] <;> omega)) only [Sall,evalOp,init,binA_s,binE,binI,unE,convE,okNil,builtE,gv,TD.isAgg,resV,↓reduceIte,Nat.reduceEqDiff,reduceCtorEq,Nat.reduceAdd,Nat.reduceMul,Nat.reduceLeDiff,za0,za1,Int.reduceEq,Int.reduceLT,Int.reduceLE,Nat.reduceLT,tiA,tiXA, h22, h20, c1, c5, lg, hr14]
        refine ⟨by omega, ?_⟩
        have o4 := (o3.push ⟨69, true, ints (List.replicate 14 0)⟩).putRow 4 rfl (cs' := ints r)
        obtain ⟨rk, erk⟩ : ∃ rk, rk = H2.next := ⟨_, rfl⟩
        have o4 : Ow H ((H2.push ⟨69, true, ints (List.replicate 14 0)⟩).setCells H2.next (ints r)) [.row pi ⟨26, true, [.int .i64 q, v]⟩, .row (pi + 1) ⟨2, true, [.int .i64 a]⟩, .row (pi + 2) ⟨2, true, [.int .i64 b]⟩, .sl 1 2 w (rbL l a.toNat b i).length (ints (rbL l a.toNat b i)), .row H2.next ⟨69, true, ints r⟩] := o4
        rw [← erk] at o4 ⊢
        generalize (H2.push ⟨69, true, ints (List.replicate 14 0)⟩).setCells rk (ints r) = H3 at o4 ⊢
        have g1 := (o4.rowAt 1 rfl).1
        have g2 := (o4.rowAt 2 rfl).1
        have g4 := (o4.rowAt 4 rfl).1
        have gi : (ints r)[an]? = some (.int .i64 (r.getD an 0)) := ints_get? r an (by omega)
        have hln := rbL_len l a.toNat b i
        have zz : zeros 1 [.int .i64 0] = [.int .i64 0] := rfl
        have hs' : rbL l a.toNat b (i + 1) = rbL l a.toNat b i ++ if r.getD an 0 = b then [(i : Int)] else [] := by rw [zdG, er2, ean, Int.toNat_natCast]
        refine zaR (by kernel_rfl) (by kernel_rfl) ?_
        by_cases c : r.getD an 0 = b
        · have e7 : (r.getD an 0 == b) = true := beq_iff_eq.2 c
          rw [if_pos c] at hs'
          try simp (disch := first | omega | (simp only [L3] <;> omega)) only [Sall,evalOp,init,binA_s,binE,binI,unE,convE,okNil,builtE,gv,TD.isAgg,resV,↓reduceIte,Nat.reduceEqDiff,reduceCtorEq,Nat.reduceAdd,Nat.reduceMul,Nat.reduceLeDiff,za0,za1,Int.reduceEq,Int.reduceLT,Int.reduceLE,Nat.reduceLT,tiA,tiXA, h4, h5, g1, g2, g4, ean, gi, e7, h9, hw, zz, zaO, w64]
          (repeat refine And.intro (by omega) ?_)
          refine (o4.tmp ⟨2, true, [.int .i64 i]⟩).app 3 rfl rfl (by omega) rfl (by omega) (by decide) (by omega) ?_
          intro v' H4 n4 o5
          try simp (disch := first | omega | (simp only [L3] <;> omega)) only [Sall,evalOp,init,binA_s,binE,binI,unE,convE,okNil,builtE,gv,TD.isAgg,resV,↓reduceIte,Nat.reduceEqDiff,reduceCtorEq,Nat.reduceAdd,Nat.reduceMul,Nat.reduceLeDiff,za0,za1,Int.reduceEq,Int.reduceLT,Int.reduceLE,Nat.reduceLT,tiA,tiXA, h22, h21, h4, h5, w64]
          refine ⟨k - (i + 1), by omega, i + 1, v', rfl, by omega, by omega, h20.trans ev.symm, rfl, ?_⟩
          rw [hs', List.length_append, ← zaU]
          have o6 : Ow H H4 ([.row pi ⟨26, true, [.int .i64 q, v]⟩, .row (pi + 1) ⟨2, true, [.int .i64 a]⟩, .row (pi + 2) ⟨2, true, [.int .i64 b]⟩, .sl 1 2 v' ((rbL l a.toNat b i).length + 1) (ints (rbL l a.toNat b i) ++ [.int .i64 i])] ++ [.row rk ⟨69, true, ints r⟩]) := o5
          exact o6.left
        · have e7 : (r.getD an 0 == b) = false := beq_eq_false_iff_ne.2 c
          rw [if_neg c, List.append_nil] at hs'
          try simp (disch := first | omega | (simp only [L3] <;> omega)) only [Sall,evalOp,init,binA_s,binE,binI,unE,convE,okNil,builtE,gv,TD.isAgg,resV,↓reduceIte,Nat.reduceEqDiff,reduceCtorEq,Nat.reduceAdd,Nat.reduceMul,Nat.reduceLeDiff,za0,za1,Int.reduceEq,Int.reduceLT,Int.reduceLE,Nat.reduceLT,tiA,tiXA, h4, h5, g1, g2, g4, ean, gi, e7, h9, hw, w64]
          (repeat refine And.intro (by omega) ?_)
          try simp (disch := first | omega | (simp only [L3] <;> omega)) only [Sall,evalOp,init,binA_s,binE,binI,unE,convE,okNil,builtE,gv,TD.isAgg,resV,↓reduceIte,Nat.reduceEqDiff,reduceCtorEq,Nat.reduceAdd,Nat.reduceMul,Nat.reduceLeDiff,za0,za1,Int.reduceEq,Int.reduceLT,Int.reduceLE,Nat.reduceLT,tiA,tiXA, h22, h21, h4, h5, h9, w64]
          refine ⟨k - (i + 1), by omega, i + 1, w, rfl, by omega, by omega, h20.trans ev.symm, rfl, ?_⟩
          rw [hs']
          have o6 : Ow H H3 ([.row pi ⟨26, true, [.int .i64 q, v]⟩, .row (pi + 1) ⟨2, true, [.int .i64 a]⟩, .row (pi + 2) ⟨2, true, [.int .i64 b]⟩, .sl 1 2 w (rbL l a.toNat b i).length (ints (rbL l a.toNat b i))] ++ [.row rk ⟨69, true, ints r⟩]) := o4
          exact o6.left
      · have hik : i = k := by omega
        rw [hik] at o3
        try simp (disch := first | omega | (simp only [L3] <;> omega)) only [Sall,evalOp,init,binA_s,binE,binI,unE,convE,okNil,builtE,gv,TD.isAgg,resV,↓reduceIte,Nat.reduceEqDiff,reduceCtorEq,Nat.reduceAdd,Nat.reduceMul,Nat.reduceLeDiff,za0,za1,Int.reduceEq,Int.reduceLT,Int.reduceLE,Nat.reduceLT,tiA,tiXA, h9, hw, hC]
        exact ⟨w, rfl, o3.only 3 rfl⟩
  · have hC : (codeS q k l (twoB q a b) != 0) = true := by
      unfold codeS
      by_cases h1 : schedB q k l = true
      · rw [if_pos h1, if_neg (fun h => hok ⟨h1, h⟩)]; rfl
      · rw [if_neg h1]; rfl
    rw [if_neg hok]
    try simp (disch := first | omega | (simp only [L3] <;> omega)) only [Sall,evalOp,init,binA_s,binE,binI,unE,convE,okNil,builtE,gv,TD.isAgg,resV,↓reduceIte,Nat.reduceEqDiff,reduceCtorEq,Nat.reduceAdd,Nat.reduceMul,Nat.reduceLeDiff,za0,za1,Int.reduceEq,Int.reduceLT,Int.reduceLE,Nat.reduceLT,tiA,tiXA, hC]
    exact ⟨_, rfl, Ow.add (Ow.left (L := []) o1) _ (Nat.le_refl _) o1.sc (fun _ _ => rfl) fun S hS => ⟨rfl, .inl ⟨rfl, rfl⟩⟩⟩
end Go.Proofs.YtpienljnoaendaaGreat.A
end

section
namespace Go.Abs
theorem rowM_at {n : Nat} {l : List Int} {a b : Nat} (ha : a < n) (hb : b < n) (hab : a ≠ b) : ∀ i, i ≤ 1000 → (∀ r, r < i → roundB n (rnd l r) = true) → (rowM n l a i).getD b 0 = ((rbL l a (b : Int) i).length : Int)
  | 0, _, _ => by
    rw [rowM_zero, List.getD_eq_getElem?_getD, List.getElem?_replicate]
    split <;> rfl
  | i + 1, h1, h => by
    have ih := rowM_at ha hb hab i (by omega) fun r hr => h r (by omega)
    have hl := rbL_len l a (b : Int) i
    have hrl := zd2 n l a i
    obtain ⟨_, g1, g2, _⟩ := zb3 (h i (by omega)) (a := a) (by omega)
    rw [zd7, zdG]
    unfold ze8
    by_cases c : (rnd l i).getD a 0 = (a : Int)
    · rw [if_pos c, if_neg (by omega), List.append_nil, ih]
    · rw [if_neg c]
      unfold incR
      by_cases c2 : (rnd l i).getD a 0 = (b : Int)
      · rw [c2, if_pos rfl, Int.toNat_natCast, zbG _ _ _ _ (by omega), ih, List.length_append]
        rw [show IntKind.i64.wrap (((rbL l a (b : Int) i).length : Int) + 1) = ((rbL l a (b : Int) i).length : Int) + 1 from w64 ⟨by omega, by omega⟩]
        simp
      · rw [if_neg c2, List.append_nil, zb7 _ _ _ _ _ (by omega), ih]
theorem rbL_swap {n : Nat} {l : List Int} {a b : Nat} (ha : a < n) (hb : b < n) : ∀ i, (∀ r, r < i → roundB n (rnd l r) = true) → rbL l a (b : Int) i = rbL l b (a : Int) i
  | 0, _ => rfl
  | i + 1, h => by
    obtain ⟨_, g1, g2, g3⟩ := zb3 (h i (by omega)) (a := a) (by omega)
    obtain ⟨_, f1, f2, f3⟩ := zb3 (h i (by omega)) (a := b) (by omega)
    rw [zdG, zdG, rbL_swap ha hb i fun r hr => h r (by omega)]
    by_cases c : (rnd l i).getD a 0 = (b : Int)
    · rw [if_pos c, if_pos (by rw [c, Int.toNat_natCast] at g3; exact g3)]
    · rw [if_neg c, if_neg (fun e => c (by rw [e, Int.toNat_natCast] at f3; exact f3))]
theorem next_ok {n k : Nat} {l R : List Int} {mt : Nat → Nat → Bool} (hb : schedB n k l = true) (hp : PermN n R) (hm : ∀ i j, i < n → j < n → i ≠ j → mt i j = decide (0 < ((meetM n l k).getD (R.getD i 0).toNat []).getD (R.getD j 0).toNat 0)) {f : Nat} {now0 : List Int} (hf : MInv n mt now0 0) {x : List Int} (hx : x ∈ matF n mt f now0 0) :
    roundB n (renF R x n) = true ∧ (∀ p, p < n → (renF R x n).getD p 0 ≠ (p : Int)) ∧ ∀ p, p < n → rbL l p ((renF R x n).getD p 0) k = [] := by
  obtain ⟨q1, q2, q3⟩ := zaC hb
  have hn : 2 ≤ n ∧ n ≤ 14 := by omega
  -- the places on the way tell nothing of i = j
  let mt' : Nat → Nat → Bool := fun i j => decide (0 < (rbL l (R.getD i 0).toNat (R.getD j 0) k).length)
  have hmm : ∀ i j, i < n → j < n → i ≠ j → mt i j = mt' i j := fun i j hi hj hij => by
    have r1 := hp.rng i hi
    have r2 := hp.rng j hj
    rw [hm i j hi hj hij]
    show _ = decide (0 < (rbL l (R.getD i 0).toNat (R.getD j 0) k).length)
    have e : ((meetM n l k).getD (R.getD i 0).toNat []) = rowM n l (R.getD i 0).toNat k := by
      unfold meetM
      rw [List.getD_eq_getElem?_getD, List.getElem?_map, List.getElem?_range (by omega)]; rfl
    have hne : (R.getD i 0).toNat ≠ (R.getD j 0).toNat := fun e => hij (hp.inj i j hi hj (by omega))
    have := rowM_at (l := l) (a := (R.getD i 0).toNat) (b := (R.getD j 0).toNat) (by omega) (by omega) hne k (by omega) q3
    rw [e, this]
    have e2 : (((R.getD j 0).toNat : Nat) : Int) = R.getD j 0 := by omega
    rw [e2]
    by_cases c : 0 < (rbL l (R.getD i 0).toNat (R.getD j 0) k).length
    · rw [decide_eq_true c, decide_eq_true (by omega)]
    · rw [decide_eq_false c, decide_eq_false (by omega)]
  have h0 := matF_all hn.2 f now0 0 (by omega) hf x hx
  have h1 : MInv n mt' x n := ⟨h0.ok, h0.inv, h0.met, fun i j hij hj e => by rw [← hmm i j (by omega) hj (by omega)]; exact h0.may i j hij hj e⟩
  have F := nextF (R := R) (mt := mt') (meet := fun a b => decide (0 < (rbL l a (b : Int) k).length)) hn hp (fun a b ha hb => by rw [rbL_swap ha hb k q3]) (fun i j hi hj => by
    have r2 := hp.rng j hj
    show decide (0 < (rbL l (R.getD i 0).toNat (R.getD j 0) k).length) = decide (0 < (rbL l (R.getD i 0).toNat (((R.getD j 0).toNat : Nat) : Int) k).length)
    rw [show (((R.getD j 0).toNat : Nat) : Int) = R.getD j 0 by omega]) h1
  refine ⟨F.ok, F.no, fun p hp' => ?_⟩
  have := of_decide_eq_false (F.may p hp')
  obtain ⟨_, g1, _, _⟩ := zb3 F.ok (a := p) (by omega)
  rw [show ((((renF R x n).getD p 0).toNat : Nat) : Int) = (renF R x n).getD p 0 by omega] at this
  exact List.eq_nil_of_length_eq_zero (by omega)
end Go.Abs
end

section
set_option maxRecDepth 100000
set_option maxHeartbeats 2000000
namespace Go.Proofs.YtpienljnoaendaaGreat.A
open Go Go.Abs Go.RowKit
theorem zhZ (l : List Int) : aggI (ints l) = l := by
  unfold aggI ints
  rw [List.map_map]
  exact (List.map_congr_left fun x _ => rfl).trans (List.map_id l)
theorem freeL_minv {n : Nat} (hn : n ≤ 14) (mt : Nat → Nat → Bool) : MInv n mt (freeL n) 0 := by
  have hg : ∀ j, j < n → (freeL (n : Int)).getD j 0 = (j : Int) := fun j hj => by
    unfold freeL
    rw [List.getD_eq_getElem?_getD, List.getElem?_map, List.getElem?_range (by omega)]
    show (if (j : Int) < (n : Int) then (j : Int) else 0) = j
    rw [if_pos (by omega)]
  refine ⟨⟨zaD n, fun j hj => ?_⟩, fun j hj => ?_, fun j hj => by omega, fun i j hij hj e => ?_⟩
  · rw [hg j hj]; omega
  · rw [hg j hj, Int.toNat_natCast, hg j hj]
  · rw [hg i (by omega)] at e; omega
theorem zeN {q : Int} {k : Nat} {l : List Int} {b : Bool} (h : codeS q k l b = 0) : schedB q k l = true ∧ b = true := by
  unfold codeS at h
  split at h
  · split at h
    · rename_i h1 h2; exact ⟨h1, h2⟩
    · omega
  · omega
theorem nextFact {q : Int} {k : Nat} {l : List Int} {ll : List (List Int)} (h : nextC q k l ll = 0) :
    schedB q k l = true ∧ roundB q (nextR q k l ll) = true ∧ (∀ p : Nat, p < q.toNat → (nextR q k l ll).getD p 0 ≠ (p : Int)) ∧ ∀ p : Nat, p < q.toNat → rbL l p ((nextR q k l ll).getD p 0) k = [] := by
  unfold nextC at h
  by_cases hc : codeS q k l (resB q.toNat k l ll) = 0
  · rw [if_pos hc] at h
    obtain ⟨hs, hr⟩ := zeN hc
    obtain ⟨q1, _, _⟩ := zaC hs
    obtain ⟨n, rfl⟩ : ∃ n : Nat, q = n := ⟨q.toNat, by omega⟩
    by_cases ho : (n : Int) % 2 = 1
    · rw [if_pos ho] at h; omega
    · rw [if_neg ho] at h
      have hh : headB (nextQ (n : Int).toNat k l ll) = true := by
        cases e : headB (nextQ (n : Int).toNat k l ll) with
        | true => rfl
        | false => rw [e] at h; simp at h
      have e1 : nextR (n : Int) k l ll = headR (n : Int).toNat (rankQ (n : Int).toNat l ll) (nextQ (n : Int).toNat k l ll) := by
        unfold nextR; rw [if_pos hc, if_neg ho]
      rw [e1]
      unfold headB at hh
      unfold headR
      rw [Int.toNat_natCast] at hh ⊢
      obtain ⟨x, ex⟩ := Option.isSome_iff_exists.1 hh
      rw [ex]
      have hx : x ∈ nextQ n k l ll := List.mem_of_mem_head? (by rw [ex]; rfl)
      unfold nextQ at hx
      have := next_ok hs (zeY _ n : PermN n (rankQ n l ll)) (fun i j hi hj hij => rfl) (freeL_minv (by omega) _) hx
      exact ⟨hs, this⟩
  · rw [if_neg hc] at h; exact absurd h hc
theorem nextNone {q : Int} {k : Nat} {l : List Int} {ll : List (List Int)} (h : nextC q k l ll ≠ 0) : nextR q k l ll = List.replicate 14 0 := by
  unfold nextC at h
  unfold nextR
  by_cases hc : codeS q k l (resB q.toNat k l ll) = 0
  · rw [if_pos hc] at h ⊢
    by_cases ho : q % 2 = 1
    · rw [if_pos ho]
    · rw [if_neg ho] at h ⊢
      unfold headB at h
      unfold headR
      cases e : (nextQ q.toNat k l ll).head? with
      | none => rfl
      | some x => rw [e] at h; simp at h
  · rw [if_neg hc]
theorem zfD (n k : Nat) (l : List Int) (ll : List (List Int)) : ∀ b, ∀ a : Nat, (a : Int) ∈ zd0 n k l ll b ↔ a < b ∧ firstB n k l ll a = true
  | 0, a => by simp [zd0]
  | b + 1, a => by
    unfold zd0
    rw [List.mem_append, zfD n k l ll b a]
    by_cases e : a = b
    · subst e
      by_cases h : firstB n k l ll (a : Int) = true
      · rw [if_pos h]; simp [h]
      · rw [if_neg h]; simp [h]
    · have h2 : ¬ (a : Int) ∈ (if firstB n k l ll (b : Int) = true then [(b : Int)] else []) := by
        split
        · rw [List.mem_singleton]; omega
        · simp
      constructor
      · rintro (h | h)
        · exact ⟨by omega, h.2⟩
        · exact absurd h h2
      · rintro ⟨h1, h3⟩; exact .inl ⟨by omega, h3⟩
theorem rnd_take {l : List Int} {m i : Nat} (h : i < m) : rnd (l.take (m * 14)) i = rnd l i := by
  unfold rnd
  rw [List.drop_take, List.take_take, Nat.min_eq_left (by omega)]
theorem rbL_take {l : List Int} {m : Nat} {a : Nat} {b : Int} : ∀ j, j ≤ m → rbL (l.take (m * 14)) a b j = rbL l a b j
  | 0, _ => rfl
  | j + 1, h => by rw [zdG, zdG, rbL_take j (by omega), rnd_take (by omega)]
theorem schedB_take {q : Int} {k m : Nat} {l : List Int} (h : schedB q k l = true) (hm : m ≤ k) : schedB q m (l.take (m * 14)) = true := by
  obtain ⟨h1, h2, h3⟩ := zaC h
  unfold schedB
  rw [Bool.and_eq_true, Bool.and_eq_true, List.all_eq_true]
  refine ⟨⟨decide_eq_true h1, decide_eq_true (by omega)⟩, fun i hi => ?_⟩
  have hi := List.mem_range.1 hi
  rw [rnd_take hi]; exact h3 i (by omega)
theorem cutRow {k n b : Nat} {H : AH} {v w : Value} {l : List Int} (h : Rs k H v n l) (hw : ∀ (P : Program) (E : TI) (K : Value → AH → Prop) (H' : AH), E.size = k → K w H' → runOut P H' (sliceE E v none (some (b : Int)) none H') K)
    (hz : ∀ (i o : Nat) (s : Option Nat) (n c : Nat), v = .slice (some ⟨i, o, s⟩) n c → ∃ r : Row, H.row i = some r ∧ o ≤ r.cells.length) : ∀ (i o : Nat) (s : Option Nat) (n c : Nat), w = .slice (some ⟨i, o, s⟩) n c → ∃ r : Row, H.row i = some r ∧ o ≤ r.cells.length := by
  intro i o s n' c' e
  have hh := hw Tryz.prog ⟨.other, k, 0, []⟩ (fun w' _ => w' = w) H rfl rfl
  unfold sliceE at hh
  rw [if_neg (by simp)] at hh
  rcases h.sl with rfl | ⟨i', o', c, rfl⟩ | ⟨i', o', c, rfl, hc⟩
  · simp only [zbY, za9, zaK] at hh
    rw [← hh.2] at e; cases e
  · simp only [zb4, za9, zaK, Option.getD_none, Int.toNat_zero, Nat.zero_mul, Nat.add_zero] at hh
    rw [← hh.2] at e
    cases e
    exact hz _ _ _ _ _ rfl
  · simp only [zb4, za9, zaK, Option.getD_none, Int.toNat_zero, Nat.zero_mul, Nat.add_zero] at hh
    rw [← hh.2] at e
    have e2 := e
    split at e <;> cases e
    all_goals exact hz _ _ _ _ _ rfl
theorem law_NextRounds_c (cv : Value) (nb : Nat) (H : AH) (hc : CodeOk H cv nb) :
    ACalls Tryz.prog 5 [cv] H (fun v _ => v = .bool true ∧ True) := by
  refine ACalls.wf (by kernel_rfl) fun hs => za3 [.tmp 2] Tryz.func5 (by kernel_rfl) rfl rfl (Nat.le_of_ble_eq_true rfl) (by kernel_rfl) ?_
  have hone := hc.one
  try simp (disch := first | omega | (simp only [L3] <;> omega)) only [Sall,evalOp,init,binA_s,binE,binI,unE,convE,okNil,builtE,gv,TD.isAgg,resV,↓reduceIte,Nat.reduceEqDiff,reduceCtorEq,Nat.reduceAdd,Nat.reduceMul,Nat.reduceLeDiff,za0,za1,Int.reduceEq,Int.reduceLT,Int.reduceLE,Nat.reduceLT,tiA,tiXA, true_and]
  refine (big_c cv nb H hc).to ?_
  refine Holds.mp ?_
  by_cases hbig : 4096 < (nb : Int)
  · have e : decide (4096 < (nb : Int)) = true := decide_eq_true hbig
    try simp (disch := first | omega | (simp only [L3] <;> omega)) only [Sall,evalOp,init,binA_s,binE,binI,unE,convE,okNil,builtE,gv,TD.isAgg,resV,↓reduceIte,Nat.reduceEqDiff,reduceCtorEq,Nat.reduceAdd,Nat.reduceMul,Nat.reduceLeDiff,za0,za1,Int.reduceEq,Int.reduceLT,Int.reduceLE,Nat.reduceLT,tiA,tiXA, e]
  have e : decide (4096 < (nb : Int)) = false := decide_eq_false hbig
  have hnb : nb ≤ 4611686018427387904 := by omega
  try simp (disch := first | omega | (simp only [L3] <;> omega)) only [Sall,evalOp,init,binA_s,binE,binI,unE,convE,okNil,builtE,gv,TD.isAgg,resV,↓reduceIte,Nat.reduceEqDiff,reduceCtorEq,Nat.reduceAdd,Nat.reduceMul,Nat.reduceLeDiff,za0,za1,Int.reduceEq,Int.reduceLT,Int.reduceLE,Nat.reduceLT,tiA,tiXA, e, hone]
  refine ACalls.ex (g := fun p : (Int × Int) × (Value × Value) => .tuple #[.agg #[.int .i64 p.1.1, p.2.1], p.2.2]) (drawNextRound_c cv nb H hnb hc) ?_
  rintro ⟨⟨q, a0⟩, ⟨u, x⟩⟩ H1 ⟨k, l, ll, hq, _, hk, hb, hll, hl, hRR, o1, _⟩
  dsimp only at hq hRR
  have hu := (hRR H1 fun i r _ h => h).1.rd.one
  have hx := (hRR H1 fun i r _ h => h).2.one
  have hl2 : ∀ y, y ∈ ll → y.length ≤ 4294967296 := fun y hy => by
    obtain ⟨j, hj, e⟩ := List.getElem_of_mem hy
    have := (hl j hj).1
    rw [List.getD_eq_getElem?_getD, List.getElem?_eq_getElem hj] at this
    simp only [Option.getD_some, e] at this
    omega
  refine Holds.mp ?_
  try simp (disch := first | omega | (simp only [L3] <;> omega)) only [Sall,evalOp,init,binA_s,binE,binI,unE,convE,okNil,builtE,gv,TD.isAgg,resV,↓reduceIte,Nat.reduceEqDiff,reduceCtorEq,Nat.reduceAdd,Nat.reduceMul,Nat.reduceLeDiff,za0,za1,Int.reduceEq,Int.reduceLT,Int.reduceLE,Nat.reduceLT,tiA,tiXA, hu, hx]
  have o2 := ((o1.push ⟨26, true, [.int .i64 0, .slice none 0 0]⟩).putRow 0 rfl (cs' := [.int .i64 q, u]))
  obtain ⟨ei, eei⟩ : ∃ ei, ei = H1.next := ⟨_, rfl⟩
  rw [← eei] at o2 ⊢
  have keep : ∀ i r, H1.row i = some r → ((H1.push ⟨26, true, [.int .i64 0, .slice none 0 0]⟩).setCells ei [.int .i64 q, u]).row i = some r := fun i r hr => by
    have := o1.sc _ _ hr
    rw [AH.setCells_row, if_neg (by omega), AH.push_row, if_neg (by omega)]; exact hr
  generalize (H1.push ⟨26, true, [.int .i64 0, .slice none 0 0]⟩).setCells ei [.int .i64 q, u] = H2 at o2 keep ⊢
  have g3 : H2.row ei = some ⟨26, true, [.int .i64 q, u]⟩ := (o2.rowAt 0 rfl).1
  have r1 := hRR H2 fun i r _ h => keep i r h
  have hc2 := codeUp hc (o2.old hs)
  have sc2 := o2.sc
  clear hRR keep o2 o1
  have hnl := nextR_length q k l ll
  refine (NextRound_c q u k l x ll H2 r1.1.rd (by omega) r1.2 (by omega) hl2).to ?_
  refine Holds.mp ?_
  obtain ⟨N, eN⟩ : ∃ N, N = nextR q k l ll := ⟨_, rfl⟩
  obtain ⟨C, eC⟩ : ∃ C, C = nextC q k l ll := ⟨_, rfl⟩
  rw [← eN, ← eC]
  rw [← eN] at hnl
  have o3 := ((Ow.refl sc2).push ⟨69, true, ints (List.replicate 14 0)⟩).putRow 0 rfl (cs' := ints N)
  obtain ⟨ni, eni⟩ : ∃ ni, ni = H2.next := ⟨_, rfl⟩
  have nei : ¬ ei = H2.next := by have := sc2 _ _ g3; omega
  try simp (disch := first | omega | (simp only [L3] <;> omega)) only [Sall,evalOp,init,binA_s,binE,binI,unE,convE,okNil,builtE,gv,TD.isAgg,resV,↓reduceIte,Nat.reduceEqDiff,reduceCtorEq,Nat.reduceAdd,Nat.reduceMul,Nat.reduceLeDiff,za0,za1,Int.reduceEq,Int.reduceLT,Int.reduceLE,Nat.reduceLT,tiA,tiXA, hnl, List.size_toArray, g3, nei, hu, hx]
  rw [← eni] at o3 ⊢
  have o3 : Ow H2 ((H2.push ⟨69, true, ints (List.replicate 14 0)⟩).setCells ni (ints N)) [.row ni ⟨69, true, ints N⟩] := o3
  generalize (H2.push ⟨69, true, ints (List.replicate 14 0)⟩).setCells ni (ints N) = H3 at o3 ⊢
  have g3' := o3.old sc2 _ _ g3
  refine (specNextRound_c q u k l x ll H3 (r1.1.same (o3.old sc2)).rd (by omega) (r1.2.same (o3.old sc2)) (by omega) hl2).to ?_
  refine Holds.mp ?_
  rw [← eN, ← eC]
  have o4 := (o3.push ⟨69, true, ints (List.replicate 14 0)⟩).putRow 1 rfl (cs' := ints N)
  obtain ⟨di, edi⟩ : ∃ di, di = H3.next := ⟨_, rfl⟩
  have gN := (o3.rowAt 0 rfl).1
  have ndi : ¬ ni = H3.next := by have := (o3.rowAt 0 rfl).2.2; omega
  have sgN : seg (ints N) 0 14 = ints N := by rw [zcX _ _ (by rw [za2]; exact hnl.symm)]
  have lgN : 14 ≤ (ints N).length := by rw [za2]; omega
  try simp (disch := first | omega | (simp only [L3] <;> omega)) only [Sall,evalOp,init,binA_s,binE,binI,unE,convE,okNil,builtE,gv,TD.isAgg,resV,↓reduceIte,Nat.reduceEqDiff,reduceCtorEq,Nat.reduceAdd,Nat.reduceMul,Nat.reduceLeDiff,za0,za1,Int.reduceEq,Int.reduceLT,Int.reduceLE,Nat.reduceLT,tiA,tiXA, hnl, List.size_toArray, bne_self_eq_false, gN, ndi, sgN, lgN, arrE, zhZ, beq_self_eq_true]
  rw [← edi] at o4 ⊢
  have o4 : Ow H2 ((H3.push ⟨69, true, ints (List.replicate 14 0)⟩).setCells di (ints N)) [.row ni ⟨69, true, ints N⟩, .row di ⟨69, true, ints N⟩] := o4
  refine ⟨⟨by kernel_rfl, rfl⟩, ?_⟩
  generalize (H3.push ⟨69, true, ints (List.replicate 14 0)⟩).setCells di (ints N) = H4 at o4 ⊢
  refine (drawPointsBetween_c cv nb H4 hnb (codeUp hc2 (o4.old sc2))).ex ?_
  rintro ⟨b2, ⟨⟨q2, a2⟩, ⟨u2, x2⟩⟩⟩ H5 ⟨hb2, k2, l2, ll2, hq2, ha2, hk2, _, hll2, hl2', hRR2, o5, hZ2⟩
  dsimp only at hb2 hq2 ha2 hRR2 hZ2
  have hu2 := (hRR2 H5 fun i r _ h => h).1.rd.one
  have hx2 := (hRR2 H5 fun i r _ h => h).2.one
  have hm2 : ∀ y, y ∈ ll2 → y.length ≤ 4294967296 := fun y hy => by
    obtain ⟨j, hj, e⟩ := List.getElem_of_mem hy
    have := (hl2' j hj).1
    rw [List.getD_eq_getElem?_getD, List.getElem?_eq_getElem hj] at this
    simp only [Option.getD_some, e] at this
    omega
  have o5' := o4.call o5
  refine Holds.mp ?_
  try simp (disch := first | omega | (simp only [L3] <;> omega)) only [Sall,evalOp,init,binA_s,binE,binI,unE,convE,okNil,builtE,gv,TD.isAgg,resV,↓reduceIte,Nat.reduceEqDiff,reduceCtorEq,Nat.reduceAdd,Nat.reduceMul,Nat.reduceLeDiff,za0,za1,Int.reduceEq,Int.reduceLT,Int.reduceLE,Nat.reduceLT,tiA,tiXA, hu2, hx2]
  have o6 := ((o5'.push ⟨26, true, [.int .i64 0, .slice none 0 0]⟩).putRow 2 rfl (cs' := [.int .i64 q2, u2]))
  obtain ⟨fi, efi⟩ : ∃ fi, fi = H5.next := ⟨_, rfl⟩
  rw [← efi] at o6 ⊢
  have keep : ∀ i r, H5.row i = some r → ((H5.push ⟨26, true, [.int .i64 0, .slice none 0 0]⟩).setCells fi [.int .i64 q2, u2]).row i = some r := fun i r hr => by
    have := o5'.sc _ _ hr
    rw [AH.setCells_row, if_neg (by omega), AH.push_row, if_neg (by omega)]; exact hr
  generalize (H5.push ⟨26, true, [.int .i64 0, .slice none 0 0]⟩).setCells fi [.int .i64 q2, u2] = H6 at o6 keep ⊢
  have g9 : H6.row fi = some ⟨26, true, [.int .i64 q2, u2]⟩ := (o6.rowAt 2 rfl).1
  have g5 : H6.row ni = some ⟨69, true, ints N⟩ := (o6.rowAt 0 rfl).1
  have g3 := o6.old sc2 _ _ g3
  have r1 : Rs 14 H6 u k l ∧ Rd2 1 H6 x ll := ⟨r1.1.same (o6.old sc2), r1.2.same (o6.old sc2)⟩
  have r2 := hRR2 H6 fun i r _ h => keep i r h
  have z2 := hZ2 H6 fun i r _ h => keep i r h
  have hc6 := codeUp hc2 (o6.old sc2)
  have sc6 := o6.sc
  clear hRR2 hZ2 keep o6 o5' o5 o4 o3 g3'
  refine (PointsBetween_c q2 u2 k2 l2 x2 ll2 a2 b2 H6 r2.1.rd (by omega) r2.2 (by omega) hm2 (by omega) (by omega)).to ?_
  refine Holds.mp ?_
  try simp (disch := first | omega | (simp only [L3] <;> omega)) only [Sall,evalOp,init,binA_s,binE,binI,unE,convE,okNil,builtE,gv,TD.isAgg,resV,↓reduceIte,Nat.reduceEqDiff,reduceCtorEq,Nat.reduceAdd,Nat.reduceMul,Nat.reduceLeDiff,za0,za1,Int.reduceEq,Int.reduceLT,Int.reduceLE,Nat.reduceLT,tiA,tiXA, g9, hu2, hx2]
  refine (specPointsBetween_c q2 u2 k2 l2 x2 ll2 a2 b2 H6 r2.1.rd (by omega) r2.2 (by omega) hm2 (by omega) (by omega)).to ?_
  refine Holds.mp ?_
  try simp (disch := first | omega | (simp only [L3] <;> omega)) only [Sall,evalOp,init,binA_s,binE,binI,unE,convE,okNil,builtE,gv,TD.isAgg,resV,↓reduceIte,Nat.reduceEqDiff,reduceCtorEq,Nat.reduceAdd,Nat.reduceMul,Nat.reduceLeDiff,za0,za1,Int.reduceEq,Int.reduceLT,Int.reduceLE,Nat.reduceLT,tiA,tiXA, hone, bne_self_eq_false]
  refine ACalls.ex (g := fun p : (Int × Int) × (Value × Value) => .tuple #[.agg #[.int .i64 p.1.1, p.2.1], p.2.2, .int .i64 p.1.2]) (drawPointsByRound_c cv nb H6 hnb hc6) ?_
  rintro ⟨⟨q3, a3⟩, ⟨u3, x3⟩⟩ H7 ⟨k3, l3, ll3, hq3, ha3, hk3, _, hll3, hl3', hRR3, o7, _⟩
  dsimp only at hq3 ha3 hRR3
  have hu3 := (hRR3 H7 fun i r _ h => h).1.rd.one
  have hx3 := (hRR3 H7 fun i r _ h => h).2.one
  have hm3 : ∀ y, y ∈ ll3 → y.length ≤ 4294967296 := fun y hy => by
    obtain ⟨j, hj, e⟩ := List.getElem_of_mem hy
    have := (hl3' j hj).1
    rw [List.getD_eq_getElem?_getD, List.getElem?_eq_getElem hj] at this
    simp only [Option.getD_some, e] at this
    omega
  refine Holds.mp ?_
  try simp (disch := first | omega | (simp only [L3] <;> omega)) only [Sall,evalOp,init,binA_s,binE,binI,unE,convE,okNil,builtE,gv,TD.isAgg,resV,↓reduceIte,Nat.reduceEqDiff,reduceCtorEq,Nat.reduceAdd,Nat.reduceMul,Nat.reduceLeDiff,za0,za1,Int.reduceEq,Int.reduceLT,Int.reduceLE,Nat.reduceLT,tiA,tiXA, hu3, hx3]
  have o8 := ((o7.push ⟨26, true, [.int .i64 0, .slice none 0 0]⟩).putRow 0 rfl (cs' := [.int .i64 q3, u3]))
  obtain ⟨hi, ehi⟩ : ∃ hi, hi = H7.next := ⟨_, rfl⟩
  rw [← ehi] at o8 ⊢
  have keep : ∀ i r, H7.row i = some r → ((H7.push ⟨26, true, [.int .i64 0, .slice none 0 0]⟩).setCells hi [.int .i64 q3, u3]).row i = some r := fun i r hr => by
    have := o7.sc _ _ hr
    rw [AH.setCells_row, if_neg (by omega), AH.push_row, if_neg (by omega)]; exact hr
  generalize (H7.push ⟨26, true, [.int .i64 0, .slice none 0 0]⟩).setCells hi [.int .i64 q3, u3] = H8 at o8 keep ⊢
  have g19 : H8.row hi = some ⟨26, true, [.int .i64 q3, u3]⟩ := (o8.rowAt 0 rfl).1
  have g3 := o8.old sc6 _ _ g3
  have g5 := o8.old sc6 _ _ g5
  have g9 := o8.old sc6 _ _ g9
  have r1 : Rs 14 H8 u k l ∧ Rd2 1 H8 x ll := ⟨r1.1.same (o8.old sc6), r1.2.same (o8.old sc6)⟩
  have r2 : Rs 14 H8 u2 k2 l2 ∧ Rd2 1 H8 x2 ll2 := ⟨r2.1.same (o8.old sc6), r2.2.same (o8.old sc6)⟩
  have r3 := hRR3 H8 fun i r _ h => keep i r h
  have z2 : ∀ (i o : Nat) (s : Option Nat) (n c : Nat), u2 = .slice (some ⟨i, o, s⟩) n c → ∃ r : Row, H8.row i = some r ∧ o ≤ r.cells.length := fun i o s n c e => by
    obtain ⟨r, h1, h2⟩ := z2 i o s n c e
    exact ⟨r, o8.old sc6 _ _ h1, h2⟩
  have sc8 := o8.sc
  clear hRR3 keep o8 o7
  refine ACalls.ex (g := fun w => .tuple #[w, .int .i64 (codeS q3 k3 l3 (resB q3.toNat k3 l3 ll3 && decide (0 ≤ a3 ∧ a3 ≤ q3 - 1)))]) (ACalls.scz (PointsByRound_c q3 u3 k3 l3 x3 ll3 a3 H8 r3.1.rd (by omega) r3.2 (by omega) hm3 (by omega))) ?_
  rintro v22 H9 ⟨⟨up9, f9⟩, sc9⟩
  have o9 := Ow.of_fr up9 sc9 f9
  have hv22 := o9.one 0 rfl
  have g19' := o9.old sc8 _ _ g19
  refine Holds.mp ?_
  try simp (disch := first | omega | (simp only [L3] <;> omega)) only [Sall,evalOp,init,binA_s,binE,binI,unE,convE,okNil,builtE,gv,TD.isAgg,resV,↓reduceIte,Nat.reduceEqDiff,reduceCtorEq,Nat.reduceAdd,Nat.reduceMul,Nat.reduceLeDiff,za0,za1,Int.reduceEq,Int.reduceLT,Int.reduceLE,Nat.reduceLT,tiA,tiXA, hv22, g19', hu3, hx3]
  refine ACalls.ex (g := fun w => .tuple #[w, .int .i64 (codeS q3 k3 l3 (resB q3.toNat k3 l3 ll3 && decide (0 ≤ a3 ∧ a3 ≤ q3 - 1)))]) (ACalls.scz (specPointsByRound_c q3 u3 k3 l3 x3 ll3 a3 H9 (r3.1.same (o9.old sc8)).rd (by omega) (r3.2.same (o9.old sc8)) (by omega) hm3 (by omega))) ?_
  rintro v24 Ha ⟨⟨upa, fa⟩, sca⟩
  have oa := o9.call (Ow.of_fr upa sca fa)
  have hv24 := oa.one 1 rfl
  have g19' := oa.old sc8 _ _ g19
  have hbl := byR_length q3 k3 l3 ll3 a3
  refine Holds.mp ?_
  try simp (disch := first | omega | (simp only [L3] <;> omega)) only [Sall,evalOp,init,binA_s,binE,binI,unE,convE,okNil,builtE,gv,TD.isAgg,resV,↓reduceIte,Nat.reduceEqDiff,reduceCtorEq,Nat.reduceAdd,Nat.reduceMul,Nat.reduceLeDiff,za0,za1,Int.reduceEq,Int.reduceLT,Int.reduceLE,Nat.reduceLT,tiA,tiXA, hv24, bne_self_eq_false]
  refine (likeInts_c v22 v24 _ (byR q3 k3 l3 ll3 a3) Ha (by omega) (oa.rd 0 rfl) (oa.rd 1 rfl)).to ?_
  refine Holds.mp ?_
  try simp (disch := first | omega | (simp only [L3] <;> omega)) only [Sall,evalOp,init,binA_s,binE,binI,unE,convE,okNil,builtE,gv,TD.isAgg,resV,↓reduceIte,Nat.reduceEqDiff,reduceCtorEq,Nat.reduceAdd,Nat.reduceMul,Nat.reduceLeDiff,za0,za1,Int.reduceEq,Int.reduceLT,Int.reduceLE,Nat.reduceLT,tiA,tiXA, g19', hu3, hx3, Bool.not_true]
  refine (CanBeFirst_c q3 u3 k3 l3 x3 ll3 a3 Ha (r3.1.same (oa.old sc8)) (by omega) (r3.2.same (oa.old sc8)) (by omega) hm3 (by omega)).to ?_
  refine Holds.mp ?_
  try simp (disch := first | omega | (simp only [L3] <;> omega)) only [Sall,evalOp,init,binA_s,binE,binI,unE,convE,okNil,builtE,gv,TD.isAgg,resV,↓reduceIte,Nat.reduceEqDiff,reduceCtorEq,Nat.reduceAdd,Nat.reduceMul,Nat.reduceLeDiff,za0,za1,Int.reduceEq,Int.reduceLT,Int.reduceLE,Nat.reduceLT,tiA,tiXA, g19', hu3, hx3]
  refine (specCanBeFirst_c q3 u3 k3 l3 x3 ll3 a3 Ha (r3.1.same (oa.old sc8)).rd (by omega) (r3.2.same (oa.old sc8)) (by omega) hm3 (by omega)).to ?_
  refine Holds.mp ?_
  have eb : (!(canR q3 k3 l3 ll3 a3 == canR q3 k3 l3 ll3 a3)) = false := by simp
  try simp (disch := first | omega | (simp only [L3] <;> omega)) only [Sall,evalOp,init,binA_s,binE,binI,unE,convE,okNil,builtE,gv,TD.isAgg,resV,↓reduceIte,Nat.reduceEqDiff,reduceCtorEq,Nat.reduceAdd,Nat.reduceMul,Nat.reduceLeDiff,za0,za1,Int.reduceEq,Int.reduceLT,Int.reduceLE,Nat.reduceLT,tiA,tiXA, bne_self_eq_false, eb]
  refine zdR (fun t H' => t 3 = .pointer (some ⟨ei, 0, none⟩) ∧ t 5 = .pointer (some ⟨ni, 0, none⟩) ∧ t 6 = .int .i64 C ∧ t 9 = .pointer (some ⟨fi, 0, none⟩) ∧ t 10 = x2 ∧ t 11 = .int .i64 a2 ∧ t 12 = .int .i64 b2 ∧ t 13 = .int .i64 (btwR q2 k2 l2 ll2 a2 b2).1 ∧ t 14 = .int .i64 (btwR q2 k2 l2 ll2 a2 b2).2 ∧ t 15 = .int .i64 (codeS q2 k2 l2 (resB q2.toNat k2 l2 ll2 && twoB q2 a2 b2)) ∧ Ow H8 H' []) (fun _ => ?_) (fun hz => ?_) ?_
  · try simp (disch := first | omega | (simp only [L3] <;> omega)) only [Sall,evalOp,init,binA_s,binE,binI,unE,convE,okNil,builtE,gv,TD.isAgg,resV,↓reduceIte,Nat.reduceEqDiff,reduceCtorEq,Nat.reduceAdd,Nat.reduceMul,Nat.reduceLeDiff,za0,za1,Int.reduceEq,Int.reduceLT,Int.reduceLE,Nat.reduceLT,tiA,tiXA, true_and]
    exact Ow.left (L := []) oa
  · obtain ⟨hs3, hr3⟩ := zeN (beq_iff_eq.1 hz)
    rw [Bool.and_eq_true] at hr3
    have hin := of_decide_eq_true hr3.2
    obtain ⟨p1, p2, p3⟩ := zaC hs3
    obtain ⟨rk, _⟩ := zcY hr3.1
    obtain ⟨n, en⟩ : ∃ n : Nat, q3 = n := ⟨q3.toNat, by omega⟩
    obtain ⟨c, ec⟩ : ∃ c : Nat, a3 = c := ⟨a3.toNat, by omega⟩
    have hcn : c < n := by omega
    have hC3 : codeS q3 k3 l3 (resB q3.toNat k3 l3 ll3) = 0 := by unfold codeS; rw [if_pos hs3, if_pos hr3.1]
    have hC4 : codeS q3 k3 l3 (resB q3.toNat k3 l3 ll3 && decide (0 ≤ a3 ∧ a3 ≤ q3 - 1)) = 0 := beq_iff_eq.1 hz
    have eB : byR q3 k3 l3 ll3 a3 = ptsBy n l3 ll3 c (ll3.length + 1) := by
      unfold byR
      rw [if_pos ⟨hs3, by rw [hr3.1, hr3.2]; rfl⟩, en, ec, Int.toNat_natCast, Int.toNat_natCast]
    have eP : ptsR q3 k3 l3 ll3 = sumsF n (fun _ o => o) (meets n l3 ll3 ll3.length) := by
      unfold ptsR
      rw [if_pos ⟨hs3, hr3.1⟩, en, Int.toNat_natCast]
    have hcan : canR q3 k3 l3 ll3 a3 = firstB n k3 l3 ll3 (c : Int) := by
      unfold canR
      rw [hs3, hr3.1, hr3.2, en, ec, Int.toNat_natCast]; rfl
    have hmem : ((c : Int) ∈ zdD q3 k3 l3 ll3) ↔ firstB n k3 l3 ll3 (c : Int) = true := by
      unfold zdD
      rw [if_pos ⟨hs3, hr3.1⟩, en, Int.toNat_natCast, zfD]
      exact ⟨fun h => h.2, fun h => ⟨hcn, h⟩⟩
    obtain ⟨B, hB⟩ : ∃ B, B = byR q3 k3 l3 ll3 a3 := ⟨_, rfl⟩
    obtain ⟨Pt, hPt⟩ : ∃ Pt, Pt = ptsR q3 k3 l3 ll3 := ⟨_, rfl⟩
    have hBl : B.length = ll3.length + 1 := by rw [hB, eB, zcD]
    have hPl : Pt.length = n := by rw [hPt, eP, zaS]
    have hBat : ∀ i, i ≤ ll3.length → B.getD i 0 = (sumsF n (fun _ o => o) (meets n l3 ll3 i)).getD c 0 := fun i hi => by
      rw [hB, eB]
      unfold ptsBy
      rw [List.getD_eq_getElem?_getD, List.getElem?_map, List.getElem?_range (by omega)]; rfl
    have hB0 : B.getD 0 0 = 0 := by
      rw [hBat 0 (by omega), zbW, zdW, List.getD_eq_getElem?_getD, List.getElem?_replicate]
      split <;> rfl
    have hBR : B.getD ll3.length 0 = Pt.getD c 0 := by rw [hBat _ (Nat.le_refl _), hPt, eP]
    have hgrow : ∀ i, i < ll3.length → B.getD i 0 ≤ B.getD (i + 1) 0 ∧ B.getD (i + 1) 0 ≤ B.getD i 0 + 2 := fun i hi => by
      rw [hBat i (by omega), hBat (i + 1) (by omega)]
      exact sums_grow (k := k3) (by rw [en] at hs3; exact hs3) rk hi hcn
    refine Holds.mp ?_
    try simp (disch := first | omega | (simp only [L3] <;> omega)) only [Sall,evalOp,init,binA_s,binE,binI,unE,convE,okNil,builtE,gv,TD.isAgg,resV,↓reduceIte,Nat.reduceEqDiff,reduceCtorEq,Nat.reduceAdd,Nat.reduceMul,Nat.reduceLeDiff,za0,za1,Int.reduceEq,Int.reduceLT,Int.reduceLE,Nat.reduceLT,tiA,tiXA, g19', hu3, hx3]
    refine ACalls.ex (g := fun w => .tuple #[w, .int .i64 (codeS q3 k3 l3 (resB q3.toNat k3 l3 ll3))]) (ACalls.scz (PointsOf_c q3 u3 k3 l3 x3 ll3 Ha (r3.1.same (oa.old sc8)).rd (by omega) (r3.2.same (oa.old sc8)) (by omega) hm3)) ?_
    rintro v30 Hb ⟨⟨upb, fb⟩, scb⟩
    have ob := oa.call (Ow.of_fr upb scb fb)
    have hv30 := ob.one 2 rfl
    have g19b := ob.old sc8 _ _ g19
    refine Holds.mp ?_
    try simp (disch := first | omega | (simp only [L3] <;> omega)) only [Sall,evalOp,init,binA_s,binE,binI,unE,convE,okNil,builtE,gv,TD.isAgg,resV,↓reduceIte,Nat.reduceEqDiff,reduceCtorEq,Nat.reduceAdd,Nat.reduceMul,Nat.reduceLeDiff,za0,za1,Int.reduceEq,Int.reduceLT,Int.reduceLE,Nat.reduceLT,tiA,tiXA, hv30, g19b, hu3, hx3, hC3]
    refine ACalls.ex (g := fun w => .tuple #[w, .int .i64 (codeS q3 k3 l3 (resB q3.toNat k3 l3 ll3))]) (ACalls.scz (FirstTeams_c q3 u3 k3 l3 x3 ll3 Hb (r3.1.same (ob.old sc8)) (by omega) (r3.2.same (ob.old sc8)) (by omega) hm3)) ?_
    rintro v32 Hc ⟨⟨upc, fc⟩, scc⟩
    have oc := ob.call (Ow.of_fr upc scc fc)
    have hv32 := oc.one 3 rfl
    have rB := oc.rd 0 rfl
    have rP := oc.rd 2 rfl
    have rF := oc.rd 3 rfl
    rw [← hB] at rB
    rw [← hPt] at rP
    have lB := rB.len
    rw [hBl] at rB lB
    rw [hPl] at rP
    have lz := (r3.2.same (oc.old sc8)).len
    obtain ⟨bi, bo, bu, bc, br, ev22, b1, b2', b3, b4⟩ := rB.get (by omega)
    obtain ⟨pi, po, pu, pc, pr, ev30, s1, s2, s3, s4⟩ := rP.get (by omega)
    have b5 := b3 0 (by omega)
    have b6 := b3 ll3.length (by omega)
    have s5 := s3 c (by omega)
    rw [Nat.add_zero, hB0] at b5
    rw [hBR] at b6
    have q00 : ((0 : Int) != 0) = false := rfl
    have e1 : (((ll3.length : Int) + 1) != ((ll3.length : Int) + 1)) = false := bne_self_eq_false _
    have eln : (((ll3.length + 1 : Nat)) : Int) = (ll3.length : Int) + 1 := by omega
    have e2 : (Pt.getD c 0 != Pt.getD c 0) = false := bne_self_eq_false _
    have i1 : ((ll3.length : Int) + 1 - 1).toNat = ll3.length := by omega
    have e3 : (!(canR q3 k3 l3 ll3 a3 == decide ((c : Int) ∈ zdD q3 k3 l3 ll3))) = false := by
      rw [hcan]
      cases hf : firstB n k3 l3 ll3 (c : Int) with
      | true => rw [decide_eq_true (hmem.2 hf)]; rfl
      | false => rw [decide_eq_false (fun h => by rw [hmem.1 h] at hf; cases hf)]; rfl
    refine Holds.mp ?_
    try simp (disch := first | omega | (simp only [L3] <;> omega)) only [Sall,evalOp,init,binA_s,binE,binI,unE,convE,okNil,builtE,gv,TD.isAgg,resV,↓reduceIte,Nat.reduceEqDiff,reduceCtorEq,Nat.reduceAdd,Nat.reduceMul,Nat.reduceLeDiff,za0,za1,Int.reduceEq,Int.reduceLT,Int.reduceLE,Nat.reduceLT,tiA,tiXA, hv32, hC3, hC4]
    refine zaR (by kernel_rfl) (by kernel_rfl) ?_
    simp (config := {maxSteps := 3000000}) (disch := first | omega | (simp only [L3] <;> omega)) only [Sall,evalOp,init,binA_s,binE,binI,unE,convE,okNil,builtE,gv,TD.isAgg,resV,↓reduceIte,Nat.reduceEqDiff,reduceCtorEq,Nat.reduceAdd,Nat.reduceMul,Nat.reduceLeDiff,za0,za1,Int.reduceEq,Int.reduceLT,Int.reduceLE,Nat.reduceLT,tiA,tiXA, hC3, hC4, q00, builtE, lB, lz, eln, e1, ev22, ev30, b1, b5, b6, s1, s5, i1, ec, e2, Int.toNat_zero, w64]
    refine ⟨by omega, ⟨by omega, by omega⟩, ⟨by omega, by omega⟩, ?_⟩
    refine (hasInt_c v32 (c : Int) _ (zdD q3 k3 l3 ll3) Hc (by have := firstsR_length q3 k3 l3 ll3; omega) rF).to ?_
    refine ⟨.inr (.inr (LE.refl _)), ?_⟩
    refine Holds.mp ?_
    rw [ec] at e3
    try simp (disch := first | omega | (simp only [L3] <;> omega)) only [Sall,evalOp,init,binA_s,binE,binI,unE,convE,okNil,builtE,gv,TD.isAgg,resV,↓reduceIte,Nat.reduceEqDiff,reduceCtorEq,Nat.reduceAdd,Nat.reduceMul,Nat.reduceLeDiff,za0,za1,Int.reduceEq,Int.reduceLT,Int.reduceLE,Nat.reduceLT,tiA,tiXA, e3, w64, ec]
    refine za7 (fun z t Hx => Hc = Hx ∧ ∃ i : Nat, z = ll3.length + 1 - i ∧ 1 ≤ i ∧ i ≤ ll3.length + 1 ∧ t 34 = .int .i64 i ∧ t 22 = .slice (some ⟨bi, bo, bu⟩) (ll3.length + 1) bc ∧ t 3 = .pointer (some ⟨ei, 0, none⟩) ∧ t 5 = .pointer (some ⟨ni, 0, none⟩) ∧ t 6 = .int .i64 C ∧ t 9 = .pointer (some ⟨fi, 0, none⟩) ∧ t 10 = x2 ∧ t 11 = .int .i64 a2 ∧ t 12 = .int .i64 b2 ∧ t 13 = .int .i64 (btwR q2 k2 l2 ll2 a2 b2).1 ∧ t 14 = .int .i64 (btwR q2 k2 l2 ll2 a2 b2).2 ∧ t 15 = .int .i64 (codeS q2 k2 l2 (resB q2.toNat k2 l2 ll2 && twoB q2 a2 b2))) ll3.length ?_ ?_
    · refine ⟨rfl, 1, by omega, by omega, by omega, ?_⟩
      try simp (disch := first | omega | (simp only [L3] <;> omega)) only [Sall,evalOp,init,binA_s,binE,binI,unE,convE,okNil,builtE,gv,TD.isAgg,resV,↓reduceIte,Nat.reduceEqDiff,reduceCtorEq,Nat.reduceAdd,Nat.reduceMul,Nat.reduceLeDiff,za0,za1,Int.reduceEq,Int.reduceLT,Int.reduceLE,Nat.reduceLT,tiA,tiXA, Int.natCast_one]
    · rintro z t Hx ⟨rfl, i, hz', hi1, hi2, h34, h22, h3, h5, h6, h9, h10, h11, h12, h13, h14, h15⟩
      try simp (disch := first | omega | (simp only [L3] <;> omega)) only [Sall,evalOp,init,binA_s,binE,binI,unE,convE,okNil,builtE,gv,TD.isAgg,resV,↓reduceIte,Nat.reduceEqDiff,reduceCtorEq,Nat.reduceAdd,Nat.reduceMul,Nat.reduceLeDiff,za0,za1,Int.reduceEq,Int.reduceLT,Int.reduceLE,Nat.reduceLT,tiA,tiXA, h34, h22, builtE]
      refine za6 (fun hh => ?_) (fun hh => ?_)
      · have g1 := b3 i (by omega)
        have g2 := b3 (i - 1) (by omega)
        have gg := hgrow (i - 1) (by omega)
        rw [show i - 1 + 1 = i by omega] at gg
        have j1 : ((i : Int) - 1).toNat = i - 1 := by omega
        have d1 : decide (B.getD i 0 < B.getD (i - 1) 0) = false := decide_eq_false (by omega)
        have d2 : decide (B.getD (i - 1) 0 + 2 < B.getD i 0) = false := decide_eq_false (by omega)
        have bnd : -1000000 ≤ B.getD (i - 1) 0 ∧ B.getD (i - 1) 0 ≤ 1000000 := by
          have h1 := (gm0_ok (n := n) (by omega) (l := l3) (ll := ll3) (by omega)).bnd c
          have mono : ∀ m, m ≤ ll3.length → 0 ≤ B.getD m 0 ∧ B.getD m 0 ≤ 2 * (m : Int) := fun m => by
            induction m with
            | zero => intro _; rw [hB0]; omega
            | succ m ih => intro hm; have := ih (by omega); have := hgrow m (by omega); omega
          have := mono (i - 1) (by omega)
          omega
        try simp (disch := first | omega | (simp only [L3] <;> omega)) only [Sall,evalOp,init,binA_s,binE,binI,unE,convE,okNil,builtE,gv,TD.isAgg,resV,↓reduceIte,Nat.reduceEqDiff,reduceCtorEq,Nat.reduceAdd,Nat.reduceMul,Nat.reduceLeDiff,za0,za1,Int.reduceEq,Int.reduceLT,Int.reduceLE,Nat.reduceLT,tiA,tiXA, h34, h22]
        refine zaR (by kernel_rfl) (by kernel_rfl) ?_
        simp (config := {maxSteps := 3000000}) (disch := first | omega | (simp only [L3] <;> omega)) only [Sall,evalOp,init,binA_s,binE,binI,unE,convE,okNil,builtE,gv,TD.isAgg,resV,↓reduceIte,Nat.reduceEqDiff,reduceCtorEq,Nat.reduceAdd,Nat.reduceMul,Nat.reduceLeDiff,za0,za1,Int.reduceEq,Int.reduceLT,Int.reduceLE,Nat.reduceLT,tiA,tiXA, h34, h22, b1, g1, g2, j1, d1, d2, w64]
        exact ⟨⟨by omega, by omega⟩, ⟨by omega, by omega⟩, ⟨by omega, by omega⟩, ⟨by omega, by omega⟩, ll3.length + 1 - (i + 1), by omega, i + 1, rfl, by omega, by omega, by omega, h3, h5, h6, h9, h10, h11, h12, h13, h14, h15⟩
      · try simp (disch := first | omega | (simp only [L3] <;> omega)) only [Sall,evalOp,init,binA_s,binE,binI,unE,convE,okNil,builtE,gv,TD.isAgg,resV,↓reduceIte,Nat.reduceEqDiff,reduceCtorEq,Nat.reduceAdd,Nat.reduceMul,Nat.reduceLeDiff,za0,za1,Int.reduceEq,Int.reduceLT,Int.reduceLE,Nat.reduceLT,tiA,tiXA, h3]
        exact ⟨h5, h6, h9, h10, h11, h12, h13, h14, h15, Ow.left (L := []) oc⟩
  · rintro t H' ⟨h3, h5, h6, h9, h10, h11, h12, h13, h14, h15, oz⟩
    have g3z := oz.old sc8 _ _ g3
    have g5z := oz.old sc8 _ _ g5
    have g9z := oz.old sc8 _ _ g9
    have r2z : Rs 14 H' u2 k2 l2 ∧ Rd2 1 H' x2 ll2 := ⟨r2.1.same (oz.old sc8), r2.2.same (oz.old sc8)⟩
    have lx2 := r2z.2.len
    have scz := oz.sc
    try simp (disch := first | omega | (simp only [L3] <;> omega)) only [Sall,evalOp,init,binA_s,binE,binI,unE,convE,okNil,builtE,gv,TD.isAgg,resV,↓reduceIte,Nat.reduceEqDiff,reduceCtorEq,Nat.reduceAdd,Nat.reduceMul,Nat.reduceLeDiff,za0,za1,Int.reduceEq,Int.reduceLT,Int.reduceLE,Nat.reduceLT,tiA,tiXA, h15]
    refine zdR (fun t H2 => t 3 = .pointer (some ⟨ei, 0, none⟩) ∧ t 5 = .pointer (some ⟨ni, 0, none⟩) ∧ t 6 = .int .i64 C ∧ Ow H' H2 []) (fun _ => ?_) (fun hz => ?_) ?_
    · try simp (disch := first | omega | (simp only [L3] <;> omega)) only [Sall,evalOp,init,binA_s,binE,binI,unE,convE,okNil,builtE,gv,TD.isAgg,resV,↓reduceIte,Nat.reduceEqDiff,reduceCtorEq,Nat.reduceAdd,Nat.reduceMul,Nat.reduceLeDiff,za0,za1,Int.reduceEq,Int.reduceLT,Int.reduceLE,Nat.reduceLT,tiA,tiXA, h3, h5, h6]
      exact Ow.refl scz
    · obtain ⟨hs2, hr2⟩ := zeN (beq_iff_eq.1 hz)
      rw [Bool.and_eq_true] at hr2
      obtain ⟨p1, p2, p3⟩ := zaC hs2
      obtain ⟨rk, _⟩ := zcY hr2.1
      try simp (disch := first | omega | (simp only [L3] <;> omega)) only [Sall,evalOp,init,binA_s,binE,binI,unE,convE,okNil,builtE,gv,TD.isAgg,resV,↓reduceIte,Nat.reduceEqDiff,reduceCtorEq,Nat.reduceAdd,Nat.reduceMul,Nat.reduceLeDiff,za0,za1,Int.reduceEq,Int.reduceLT,Int.reduceLE,Nat.reduceLT,tiA,tiXA, true_and]
      refine zdJ (fun t H2 => ∃ (w : Value) (yi : Nat), t 3 = .pointer (some ⟨ei, 0, none⟩) ∧ t 5 = .pointer (some ⟨ni, 0, none⟩) ∧ t 6 = .int .i64 C ∧ t 11 = .int .i64 a2 ∧ t 12 = .int .i64 b2 ∧ t 13 = .int .i64 (btwR q2 k2 l2 ll2 a2 b2).1 ∧ t 14 = .int .i64 (btwR q2 k2 l2 ll2 a2 b2).2 ∧ t 35 = .pointer (some ⟨yi, 0, none⟩) ∧ Ow H' H2 [.row yi ⟨26, true, [.int .i64 q2, w]⟩, .cap 14 69 w ll2.length (ints (l2.take (ll2.length * 14)))]) ?_ ?_
      · skip
        have lRs := r2z.1
        obtain ⟨w, hw, rw'⟩ := lRs.cut (lo := none) (hi := some (ll2.length : Int)) (a := 0) (b := ll2.length) rfl rfl (Nat.zero_le _) rk
        rw [Nat.zero_mul, List.drop_zero, Nat.sub_zero] at rw'
        have hwo := rw'.rd.one
        have zw : ∀ (i o : Nat) (s : Option Nat) (n c : Nat), w = .slice (some ⟨i, o, s⟩) n c → ∃ r : Row, H'.row i = some r ∧ o ≤ r.cells.length := cutRow lRs hw fun i o s n c e => by
          obtain ⟨r, h1, h2⟩ := z2 i o s n c e
          exact ⟨r, oz.old sc8 _ _ h1, h2⟩
        have hfi := scz _ _ g9z
        refine zgK (fun j => j < H'.next) (OT.run [0, 1, 3, 4, 5, 6, 7] (.two 2 10 (OT.run [] (.two 8 10 (OT.run [9, 10, 11] .nil) (OT.run [8, 9, 11] .nil))) (OT.run [2, 8, 9, 11] .nil))) (by kernel_rfl) (by kernel_rfl) (Nat.le_of_ble_eq_true rfl) ?_
        try simp (disch := first | omega | (simp only [L3] <;> omega)) only [Sall,evalOp,init,binA_s,binE,binI,unE,convE,okNil,builtE,gv,TD.isAgg,resV,↓reduceIte,Nat.reduceEqDiff,reduceCtorEq,Nat.reduceAdd,Nat.reduceMul,Nat.reduceLeDiff,za0,za1,Int.reduceEq,Int.reduceLT,Int.reduceLE,Nat.reduceLT,tiA,tiXA, zaB, zaA, zaX, zaY, za8, loadOk, hfi, h9, h10, g9z, hu2, builtE, lx2]
        refine hw _ _ _ _ rfl ?_
        try simp (disch := first | omega | (simp only [L3] <;> omega)) only [Sall,evalOp,init,binA_s,binE,binI,unE,convE,okNil,builtE,gv,TD.isAgg,resV,↓reduceIte,Nat.reduceEqDiff,reduceCtorEq,Nat.reduceAdd,Nat.reduceMul,Nat.reduceLeDiff,za0,za1,Int.reduceEq,Int.reduceLT,Int.reduceLE,Nat.reduceLT,tiA,tiXA, zaB, zaA, zaX, zaY, za8, loadOk, hfi, h9, h10, g9z, hu2, hwo]
        have zr : ∀ H2 : AH, (∀ (i : Nat) (r : Row), H'.row i = some r → H2.row i = some r) → ∀ (i o : Nat) (s : Option Nat) (n c : Nat), w = .slice (some ⟨i, o, s⟩) n c → ∃ r : Row, H2.row i = some r ∧ o ≤ r.cells.length := fun H2 hk i o s n c e => by
          obtain ⟨r, h1, h2⟩ := zw i o s n c e
          exact ⟨r, hk _ _ h1, h2⟩
        have zz0 : zeros 0 (ints (List.replicate 14 0)) = ints [] := rfl
        have ez : 0 + ll2.length = ll2.length := Nat.zero_add _
        refine zeF ?_ ?_
        · try simp (disch := first | omega | (simp only [L3] <;> omega)) only [Sall,evalOp,init,binA_s,binE,binI,unE,convE,okNil,builtE,gv,TD.isAgg,resV,↓reduceIte,Nat.reduceEqDiff,reduceCtorEq,Nat.reduceAdd,Nat.reduceMul,Nat.reduceLeDiff,za0,za1,Int.reduceEq,Int.reduceLT,Int.reduceLE,Nat.reduceLT,tiA,tiXA, zaB, zaA, zaX, zaY, za8, loadOk, hwo, zz0]
          have o1 := ((Ow.refl scz).pushSl (k := 14) (n := 0) (ty := 69) (vs := ints []) rfl).toCap 0 rfl
          refine ⟨.inr (.inr (LE.les (scz.le _))), ?_⟩
          obtain ⟨bi, ebi⟩ : ∃ bi, bi = H'.next := ⟨_, rfl⟩
          have k1 := o1.old scz
          rw [← ebi] at o1 ⊢
          generalize H'.push ⟨69, true, ints []⟩ = Hq at o1 k1 ⊢
          refine zeF ?_ ?_
          · try simp (disch := first | omega | (simp only [L3] <;> omega)) only [Sall,evalOp,init,binA_s,binE,binI,unE,convE,okNil,builtE,gv,TD.isAgg,resV,↓reduceIte,Nat.reduceEqDiff,reduceCtorEq,Nat.reduceAdd,Nat.reduceMul,Nat.reduceLeDiff,za0,za1,Int.reduceEq,Int.reduceLT,Int.reduceLE,Nat.reduceLT,tiA,tiXA, zaB, zaA, zaX, zaY, za8, loadOk, hwo]
            refine o1.appR 0 (c := ll2.length) (l := l2.take (ll2.length * 14)) rfl (rw'.rd.same k1) (zr _ k1) rfl (by omega) (by decide) (by omega) ?_
            intro v' Hb nb' ob
            have hv' := ob.capOne 0 rfl
            rw [ez] at ob
            refine ⟨.inr (.inr ⟨nb', fun i r hi hr => by rw [ob.low i (by omega), ← o1.low i (by omega)]; exact hr⟩), ?_⟩
            have hq1 := zbK hv'
            have hq2 := zbB hv'
            have hq3 := fun rr => ok_one (r := rr) hv'
            try simp (disch := first | omega | (simp only [L3] <;> omega)) only [Sall,evalOp,init,binA_s,binE,binI,unE,convE,okNil,builtE,gv,TD.isAgg,resV,↓reduceIte,Nat.reduceEqDiff,reduceCtorEq,Nat.reduceAdd,Nat.reduceMul,Nat.reduceLeDiff,za0,za1,Int.reduceEq,Int.reduceLT,Int.reduceLE,Nat.reduceLT,tiA,tiXA, zaB, zaA, zaX, zaY, za8, loadOk, hv', hq1, hq2, hq3]
            exact ⟨.inr (.inr (LE.les (ob.sc.le _))), .inr (.inl (by kernel_rfl)), v', _, h3, h5, h6, h11, h12, h13, h14, rfl, ((ob.push ⟨26, true, [.int .i64 0, .slice none 0 0]⟩).putRow 1 rfl (cs' := [.int .i64 q2, v'])).pick2 1 0 rfl rfl (by omega)⟩
          · try simp (disch := first | omega | (simp only [L3] <;> omega)) only [Sall,evalOp,init,binA_s,binE,binI,unE,convE,okNil,builtE,gv,TD.isAgg,resV,↓reduceIte,Nat.reduceEqDiff,reduceCtorEq,Nat.reduceAdd,Nat.reduceMul,Nat.reduceLeDiff,za0,za1,Int.reduceEq,Int.reduceLT,Int.reduceLE,Nat.reduceLT,tiA,tiXA, zaB, zaA, zaX, zaY, za8, loadOk, hwo]
            have o2 := o1.push ⟨26, true, [.int .i64 0, .slice none 0 0]⟩
            have k2' := o2.old scz
            refine ⟨.inr (.inr (LE.les (o1.sc.le _))), ?_⟩
            obtain ⟨yi, eyi⟩ : ∃ yi, yi = Hq.next := ⟨_, rfl⟩
            rw [← eyi] at o2 ⊢
            generalize Hq.push ⟨26, true, [.int .i64 0, .slice none 0 0]⟩ = Hr at o2 k2' ⊢
            try simp (disch := first | omega | (simp only [L3] <;> omega)) only [Sall,evalOp,init,binA_s,binE,binI,unE,convE,okNil,builtE,gv,TD.isAgg,resV,↓reduceIte,Nat.reduceEqDiff,reduceCtorEq,Nat.reduceAdd,Nat.reduceMul,Nat.reduceLeDiff,za0,za1,Int.reduceEq,Int.reduceLT,Int.reduceLE,Nat.reduceLT,tiA,tiXA, zaB, zaA, zaX, zaY, za8, loadOk, hwo]
            refine o2.appR 0 (c := ll2.length) (l := l2.take (ll2.length * 14)) rfl (rw'.rd.same k2') (zr _ k2') rfl (by omega) (by decide) (by omega) ?_
            intro v' Hb nb' ob
            have hv' := ob.capOne 0 rfl
            rw [ez] at ob
            have gy := (ob.rowAt 1 rfl).1
            refine ⟨.inr (.inr ⟨nb', fun i r hi hr => by rw [ob.low i (by omega), ← o2.low i (by omega)]; exact hr⟩), ?_⟩
            have hq1 := zbK hv'
            have hq2 := zbB hv'
            have hq3 := fun rr => ok_one (r := rr) hv'
            try simp (disch := first | omega | (simp only [L3] <;> omega)) only [Sall,evalOp,init,binA_s,binE,binI,unE,convE,okNil,builtE,gv,TD.isAgg,resV,↓reduceIte,Nat.reduceEqDiff,reduceCtorEq,Nat.reduceAdd,Nat.reduceMul,Nat.reduceLeDiff,za0,za1,Int.reduceEq,Int.reduceLT,Int.reduceLE,Nat.reduceLT,tiA,tiXA, zaB, zaA, zaX, zaY, za8, loadOk, hv', hq1, hq2, hq3, gy]
            exact ⟨.inr (.inl (by kernel_rfl)), v', _, h3, h5, h6, h11, h12, h13, h14, rfl, (ob.putRow 1 rfl (cs' := [.int .i64 q2, v'])).pick2 1 0 rfl rfl (by omega)⟩
        · try simp (disch := first | omega | (simp only [L3] <;> omega)) only [Sall,evalOp,init,binA_s,binE,binI,unE,convE,okNil,builtE,gv,TD.isAgg,resV,↓reduceIte,Nat.reduceEqDiff,reduceCtorEq,Nat.reduceAdd,Nat.reduceMul,Nat.reduceLeDiff,za0,za1,Int.reduceEq,Int.reduceLT,Int.reduceLE,Nat.reduceLT,tiA,tiXA, zaB, zaA, zaX, zaY, za8, loadOk, hwo]
          have o1 := (Ow.refl scz).push ⟨26, true, [.int .i64 0, .slice none 0 0]⟩
          refine ⟨.inr (.inr (LE.les (scz.le _))), ?_⟩
          obtain ⟨yi, eyi⟩ : ∃ yi, yi = H'.next := ⟨_, rfl⟩
          rw [← eyi] at o1 ⊢
          have enx : (H'.push ⟨26, true, [.int .i64 0, .slice none 0 0]⟩).next = yi + 1 := by rw [eyi]; rfl
          generalize H'.push ⟨26, true, [.int .i64 0, .slice none 0 0]⟩ = Hq at o1 enx ⊢
          try simp (disch := first | omega | (simp only [L3] <;> omega)) only [Sall,evalOp,init,binA_s,binE,binI,unE,convE,okNil,builtE,gv,TD.isAgg,resV,↓reduceIte,Nat.reduceEqDiff,reduceCtorEq,Nat.reduceAdd,Nat.reduceMul,Nat.reduceLeDiff,za0,za1,Int.reduceEq,Int.reduceLT,Int.reduceLE,Nat.reduceLT,tiA,tiXA, zaB, zaA, zaX, zaY, za8, loadOk, hwo, zz0]
          have o2 := (o1.pushSl (k := 14) (n := 0) (ty := 69) (vs := ints []) rfl).toCap 1 rfl
          have k2' := o2.old scz
          refine ⟨.inr (.inr (LE.les (o1.sc.le _))), ?_⟩
          rw [enx] at o2
          try simp (disch := first | omega | (simp only [L3] <;> omega)) only [Sall,evalOp,init,binA_s,binE,binI,unE,convE,okNil,builtE,gv,TD.isAgg,resV,↓reduceIte,Nat.reduceEqDiff,reduceCtorEq,Nat.reduceAdd,Nat.reduceMul,Nat.reduceLeDiff,za0,za1,Int.reduceEq,Int.reduceLT,Int.reduceLE,Nat.reduceLT,tiA,tiXA, zaB, zaA, zaX, zaY, za8, loadOk, hwo]
          refine o2.appR 1 (c := ll2.length) (l := l2.take (ll2.length * 14)) rfl (rw'.rd.same k2') (zr _ k2') rfl (by omega) (by decide) (by omega) ?_
          intro v' Hb nb' ob
          have hv' := ob.capOne 1 rfl
          rw [ez] at ob
          have gy := (ob.rowAt 0 rfl).1
          refine ⟨.inr (.inr ⟨nb', fun i r hi hr => by rw [ob.low i (by omega), ← o2.low i (by omega)]; exact hr⟩), ?_⟩
          have hq1 := zbK hv'
          have hq2 := zbB hv'
          have hq3 := fun rr => ok_one (r := rr) hv'
          try simp (disch := first | omega | (simp only [L3] <;> omega)) only [Sall,evalOp,init,binA_s,binE,binI,unE,convE,okNil,builtE,gv,TD.isAgg,resV,↓reduceIte,Nat.reduceEqDiff,reduceCtorEq,Nat.reduceAdd,Nat.reduceMul,Nat.reduceLeDiff,za0,za1,Int.reduceEq,Int.reduceLT,Int.reduceLE,Nat.reduceLT,tiA,tiXA, zaB, zaA, zaX, zaY, za8, loadOk, hv', hq1, hq2, hq3, gy]
          exact ⟨.inr (.inl (by kernel_rfl)), v', _, h3, h5, h6, h11, h12, h13, h14, rfl, (ob.putRow 0 rfl (cs' := [.int .i64 q2, v'])).pick2 0 1 rfl rfl (by omega)⟩
      · rintro t H2 ⟨w, yi, h3, h5, h6, h11, h12, h13, h14, h35, oy⟩
        have gy := (oy.rowAt 0 rfl).1
        have hwo := oy.capOne 1 rfl
        have htw := hr2.2
        unfold twoB at htw
        rw [Bool.and_eq_true, Bool.and_eq_true] at htw
        have i1 := of_decide_eq_true htw.1.1
        have i2 := of_decide_eq_true htw.1.2
        have i3 : a2 ≠ b2 := bne_iff_ne.1 htw.2
        obtain ⟨n2, en2⟩ : ∃ n2 : Nat, q2 = n2 := ⟨q2.toNat, by omega⟩
        obtain ⟨an, ean⟩ : ∃ an : Nat, a2 = an := ⟨a2.toNat, by omega⟩
        obtain ⟨bn, ebn⟩ : ∃ bn : Nat, b2 = bn := ⟨b2.toNat, by omega⟩
        have hst : schedB q2 ll2.length (l2.take (ll2.length * 14)) = true := schedB_take hs2 rk
        have hcd : codeS q2 ll2.length (l2.take (ll2.length * 14)) (twoB q2 a2 b2) = 0 := by unfold codeS; rw [if_pos hst, if_pos hr2.2]
        have ebt : btwR q2 k2 l2 ll2 a2 b2 = btw (an : Int) (bn : Int) (meets n2 l2 ll2 ll2.length) := by
          unfold btwR
          rw [if_pos ⟨hs2, by rw [hr2.1, hr2.2]; rfl⟩, en2, ean, ebn, Int.toNat_natCast]
        have erb : (rbR q2 ll2.length (l2.take (ll2.length * 14)) a2 b2).length = (rbL l2 an (bn : Int) ll2.length).length := by
          unfold rbR
          rw [if_pos ⟨hst, hr2.2⟩, ean, ebn, Int.toNat_natCast, rbL_take _ (Nat.le_refl _)]
        obtain ⟨m1, m2, m3⟩ := btw_meets (n := n2) (k := k2) (a := an) (b := bn) (l := l2) (ll := ll2) (by rw [← en2]; exact hs2) (by omega) (by omega) (by omega) ll2.length rk
        rw [← ebt] at m1 m2 m3
        rw [← erb] at m3
        have c0 : ((0 : Int) != 0) = false := rfl
        have hrl := rbL_len l2 an (bn : Int) ll2.length
        have e9 : ((btwR q2 k2 l2 ll2 a2 b2).1 + (btwR q2 k2 l2 ll2 a2 b2).2 != 2 * (((rbR q2 ll2.length (l2.take (ll2.length * 14)) a2 b2).length : Nat) : Int)) = false := by rw [m3]; exact bne_self_eq_false _
        try simp (disch := first | omega | (simp only [L3] <;> omega)) only [Sall,evalOp,init,binA_s,binE,binI,unE,convE,okNil,builtE,gv,TD.isAgg,resV,↓reduceIte,Nat.reduceEqDiff,reduceCtorEq,Nat.reduceAdd,Nat.reduceMul,Nat.reduceLeDiff,za0,za1,Int.reduceEq,Int.reduceLT,Int.reduceLE,Nat.reduceLT,tiA,tiXA, h35, gy, hwo, h11, h12]
        refine ACalls.ex (g := fun u => .tuple #[u, .int .i64 (codeS q2 ll2.length (l2.take (ll2.length * 14)) (twoB q2 a2 b2))]) (zdC q2 w ll2.length (l2.take (ll2.length * 14)) a2 b2 H2 (oy.capRs 1 rfl).rd (by omega) (by omega) (by omega)) ?_
        rintro v36 H3 o36
        have o36' := oy.call o36
        have hv36 := o36.one 0 rfl
        have l36 := o36.lenV 0 rfl
        refine Holds.mp ?_
        try simp (disch := first | omega | (simp only [L3] <;> omega)) only [Sall,evalOp,init,binA_s,binE,binI,unE,convE,okNil,builtE,gv,TD.isAgg,resV,↓reduceIte,Nat.reduceEqDiff,reduceCtorEq,Nat.reduceAdd,Nat.reduceMul,Nat.reduceLeDiff,za0,za1,Int.reduceEq,Int.reduceLT,Int.reduceLE,Nat.reduceLT,tiA,tiXA, hv36, hcd, c0, h13, h14, builtE, l36, e9, w64]
        exact ⟨h3, h5, h6, Ow.left (L := []) o36'⟩
    · rintro t H2 ⟨h3, h5, h6, oy⟩
      have g3y := oy.old scz _ _ g3z
      have g5y := oy.old scz _ _ g5z
      have r1y : Rs 14 H2 u k l := (r1.1.same (oz.old sc8)).same (oy.old scz)
      have scy := oy.sc
      have sgN : seg (ints N) 0 14 = ints N := by rw [zcX _ _ (by rw [za2]; exact hnl.symm)]
      have lgN : 14 ≤ (ints N).length := by rw [za2]; omega
      by_cases hC0 : C = 0
      · have c0 : (C != 0) = false := by rw [hC0]; rfl
        obtain ⟨f1, f2, f3, f4⟩ := nextFact (eC ▸ hC0 : nextC q k l ll = 0)
        rw [← eN] at f2 f3 f4
        obtain ⟨p1, p2, p3⟩ := zaC f1
        obtain ⟨n, en⟩ : ∃ n : Nat, n = q.toNat := ⟨_, rfl⟩
        have hqn : q = (n : Int) := by omega
        rw [← en] at f3 f4
        try simp (disch := first | omega | (simp only [L3] <;> omega)) only [Sall,evalOp,init,binA_s,binE,binI,unE,convE,okNil,builtE,gv,TD.isAgg,resV,↓reduceIte,Nat.reduceEqDiff,reduceCtorEq,Nat.reduceAdd,Nat.reduceMul,Nat.reduceLeDiff,za0,za1,Int.reduceEq,Int.reduceLT,Int.reduceLE,Nat.reduceLT,tiA,tiXA, h6, c0]
        refine za7 (fun z t Hx => ∃ p : Nat, z = n - p ∧ p ≤ n ∧ t 38 = .int .i64 p ∧ t 3 = .pointer (some ⟨ei, 0, none⟩) ∧ t 5 = .pointer (some ⟨ni, 0, none⟩) ∧ Ow H2 Hx []) n ?_ ?_
        · refine ⟨0, by omega, by omega, ?_⟩
          try simp (disch := first | omega | (simp only [L3] <;> omega)) only [Sall,evalOp,init,binA_s,binE,binI,unE,convE,okNil,builtE,gv,TD.isAgg,resV,↓reduceIte,Nat.reduceEqDiff,reduceCtorEq,Nat.reduceAdd,Nat.reduceMul,Nat.reduceLeDiff,za0,za1,Int.reduceEq,Int.reduceLT,Int.reduceLE,Nat.reduceLT,tiA,tiXA, Int.natCast_zero]
          exact ⟨h3, h5, Ow.refl scy⟩
        · rintro z t Hx ⟨p, hz', hp, h38, h3, h5, ox⟩
          have g3x := ox.old scy _ _ g3y
          have g5x := ox.old scy _ _ g5y
          have r1x := r1y.same (ox.old scy)
          by_cases hpn : p < n
          · have d0 : decide ((p : Int) < q) = true := decide_eq_true (by omega)
            have hno := f3 p hpn
            have hrb := f4 p hpn
            obtain ⟨_, t1, t2, _⟩ := zb3 f2 (a := p) (by omega)
            have gp : (ints N)[p]? = some (.int .i64 (N.getD p 0)) := ints_get? N p (by omega)
            obtain ⟨b, eb'⟩ : ∃ b, b = N.getD p 0 := ⟨_, rfl⟩
            rw [← eb'] at hno hrb t1 t2 gp
            have d1 : (b == (p : Int)) = false := beq_eq_false_iff_ne.2 hno
            have htw : twoB q (p : Int) b = true := by
              unfold twoB
              rw [Bool.and_eq_true, Bool.and_eq_true]
              exact ⟨⟨decide_eq_true ⟨by omega, by omega⟩, decide_eq_true ⟨t1, by omega⟩⟩, bne_iff_ne.2 (fun e => hno e.symm)⟩
            have hcd : codeS q k l (twoB q (p : Int) b) = 0 := by unfold codeS; rw [if_pos f1, if_pos htw]
            have erb : rbR q k l (p : Int) b = [] := by
              unfold rbR
              rw [if_pos ⟨f1, htw⟩, Int.toNat_natCast]; exact hrb
            have z0 : ((0 : Int) != 0) = false := rfl
            try simp (disch := first | omega | (simp only [L3] <;> omega)) only [Sall,evalOp,init,binA_s,binE,binI,unE,convE,okNil,builtE,gv,TD.isAgg,resV,↓reduceIte,Nat.reduceEqDiff,reduceCtorEq,Nat.reduceAdd,Nat.reduceMul,Nat.reduceLeDiff,za0,za1,Int.reduceEq,Int.reduceLT,Int.reduceLE,Nat.reduceLT,tiA,tiXA, h38, h3, h5, g3x, g5x, gp, d0, d1, w64]
            refine ⟨⟨by omega, by omega⟩, ?_⟩
            refine zaR (by kernel_rfl) (by kernel_rfl) ?_
            try simp (disch := first | omega | (simp only [L3] <;> omega)) only [Sall,evalOp,init,binA_s,binE,binI,unE,convE,okNil,builtE,gv,TD.isAgg,resV,↓reduceIte,Nat.reduceEqDiff,reduceCtorEq,Nat.reduceAdd,Nat.reduceMul,Nat.reduceLeDiff,za0,za1,Int.reduceEq,Int.reduceLT,Int.reduceLE,Nat.reduceLT,tiA,tiXA, h38, h3, h5, g3x, g5x, gp, hu, w64]
            refine ⟨⟨by omega, by omega⟩, ?_⟩
            refine ACalls.ex (g := fun u => .tuple #[u, .int .i64 (codeS q k l (twoB q (p : Int) b))]) (zdC q u k l (p : Int) b Hx r1x.rd (by omega) (by omega) (by omega)) ?_
            rintro v39 Hy oy'
            have ox' := ox.call oy'
            have hv39 := oy'.one 0 rfl
            have l39 := oy'.lenV 0 rfl
            rw [erb] at l39
            have z1 : ((((0 : Nat)) : Int) != 0) = false := rfl
            refine ⟨.inr (.inl (by kernel_rfl)), ?_⟩
            refine Holds.mp ?_
            try simp (disch := first | omega | (simp only [L3] <;> omega)) only [Sall,evalOp,init,binA_s,binE,binI,unE,convE,okNil,builtE,gv,TD.isAgg,resV,↓reduceIte,Nat.reduceEqDiff,reduceCtorEq,Nat.reduceAdd,Nat.reduceMul,Nat.reduceLeDiff,za0,za1,Int.reduceEq,Int.reduceLT,Int.reduceLE,Nat.reduceLT,tiA,tiXA, hv39, hcd, z0, builtE, l39, z1, h38, h3, h5, w64, List.length_nil]
            exact ⟨n - (p + 1), by omega, p + 1, rfl, by omega, by omega, Ow.left (L := []) ox'⟩
          · have d0 : decide ((p : Int) < q) = false := decide_eq_false (by omega)
            try simp (disch := first | omega | (simp only [L3] <;> omega)) only [Sall,evalOp,init,binA_s,binE,binI,unE,convE,okNil,builtE,gv,TD.isAgg,resV,↓reduceIte,Nat.reduceEqDiff,reduceCtorEq,Nat.reduceAdd,Nat.reduceMul,Nat.reduceLeDiff,za0,za1,Int.reduceEq,Int.reduceLT,Int.reduceLE,Nat.reduceLT,tiA,tiXA, h38, h3, g3x, d0, h5, g5x, sgN, lgN]
            refine ⟨by omega, ?_⟩
            refine (zhT q N hnl Hx).to ?_
            refine Holds.mp ?_
            try simp (disch := first | omega | (simp only [L3] <;> omega)) only [Sall,evalOp,init,binA_s,binE,binI,unE,convE,okNil,builtE,gv,TD.isAgg,resV,↓reduceIte,Nat.reduceEqDiff,reduceCtorEq,Nat.reduceAdd,Nat.reduceMul,Nat.reduceLeDiff,za0,za1,Int.reduceEq,Int.reduceLT,Int.reduceLE,Nat.reduceLT,tiA,tiXA, f2]
      · have c0 : (C != 0) = true := bne_iff_ne.2 hC0
        have eN0 : N = List.replicate 14 0 := by rw [eN]; exact nextNone (eC ▸ hC0)
        try simp (disch := first | omega | (simp only [L3] <;> omega)) only [Sall,evalOp,init,binA_s,binE,binI,unE,convE,okNil,builtE,gv,TD.isAgg,resV,↓reduceIte,Nat.reduceEqDiff,reduceCtorEq,Nat.reduceAdd,Nat.reduceMul,Nat.reduceLeDiff,za0,za1,Int.reduceEq,Int.reduceLT,Int.reduceLE,Nat.reduceLT,tiA,tiXA, h6, c0, h5, g5y, sgN, lgN, hnl, arrE, zhZ]
        exact ⟨⟨by kernel_rfl, rfl, rfl⟩, by rw [eN0]; exact beq_self_eq_true _⟩
end Go.Proofs.YtpienljnoaendaaGreat.A
end

section
set_option maxRecDepth 100000
namespace Go.Proofs.YtpienljnoaendaaGreat.A
open Go Go.Abs Go.RowKit
section
variable {K : Type} {enc : TypeId × Value → K} {W : World} {base b0 : Nat} {spare : Nat → Bool} {held : Bool}
end
end Go.Proofs.YtpienljnoaendaaGreat.A
end

section
set_option maxRecDepth 100000
namespace Go.Proofs.YtpienljnoaendaaGreat.A
open Go Go.Abs Go.RowKit
section
variable {K : Type} {enc : TypeId × Value → K} {W : World} {b0 : Nat} {spare : Nat → Bool} {held : Bool} {v : Value} {d : DataW K} {p : List MemPlace}
theorem cell_of_val {t e : TypeId} (hu : Tryz.prog.underlying t = some (.slice e)) (hok : Value.okWide Tryz.prog W .any b0 t v) : Cell.okWide Tryz.prog W .any 0 t v := by
  unfold Value.okWide at hok
  rw [hu] at hok
  exact hok
theorem cells_slice1 {t e : TypeId} (hu : Tryz.prog.underlying t = some (.slice e)) (hok : Cell.okWide Tryz.prog W .any 0 t v) : v.cells.toList = [v] := by
  rcases ze7 hu hok with rfl | ⟨b, o, n, c, rfl, _⟩ <;> rfl
end
end Go.Proofs.YtpienljnoaendaaGreat.A
end

section
set_option maxRecDepth 100000
namespace Go.Proofs.YtpienljnoaendaaGreat.A
open Go Go.Abs Go.RowKit
theorem uByte : Tryz.prog.underlying 5 = some (.int .u8) := by kernel_rfl
theorem uBytes : Tryz.prog.underlying 22 = some (.slice 5) := by kernel_rfl
theorem cByte : Tryz.prog.cellsOf 5 = 1 := by kernel_rfl
section
variable {K : Type} {enc : TypeId × Value → K} {W : World} {b0 : Nat} {spare : Nat → Bool} {held : Bool} {v : Value} {d : DataW K} {p : List MemPlace}
theorem open_B (h : DataW.Trod enc Tryz.prog W 0 spare held 22 v d p) (hok : Value.okWide Tryz.prog W .any b0 22 v) :
    ∃ nb, CodeOk (given W) v nb ∧ V1 id W.heap.size W v v ∧ nb ≤ 9223372036854775807 := by
  have h0 := cell_of_val uBytes hok
  obtain ⟨fuel, h⟩ := h
  rw [cells_slice1 uBytes h0] at h
  rcases ze7 uBytes h0 with rfl | ⟨b, o, n, c, rfl, hb, hn⟩
  · exact ⟨0, .inl ⟨rfl, _, _, rfl⟩, .scal _ rfl, by omega⟩
  · refine ⟨n, ?_, V1.sle (ρ := id) b o n c hb, hn⟩
    rcases DataW.trod_slice uBytes h with ⟨h0, _⟩ | ⟨a, len, cap, elems, rest, m, _, hcs, _, _, _, _, hlen, hel, _, _⟩
    · simp at h0
    · simp only [List.cons.injEq, Value.slice.injEq, Option.some.injEq, and_true] at hcs
      obtain ⟨rfl, rfl, rfl⟩ := hcs
      have each : ∀ j, j < n → ∃ z, W.cell? ⟨b, o + j, none⟩ = some (.int .u8 z) ∧ 0 ≤ z ∧ z ≤ 255 := by
        intro j hj
        have h1 := hel j hj
        rw [List.getElem?_eq_getElem (by omega), cByte, Option.bind_eq_some_iff] at h1
        obtain ⟨cs', hc1, hc2⟩ := h1
        obtain ⟨_, hl, hc⟩ := World.cells?_some hc1
        have h2 := hc 0 (by omega)
        obtain ⟨z, hz, _, hw⟩ := DataW.trod_int uByte hc2
        refine ⟨z, ?_, ?_⟩
        · rw [hz] at h2
          rw [Addr.add_lit, Addr.add_lit] at h2
          simpa using h2
        · unfold Lit.wf at hw
          simp only [Bool.and_eq_true, decide_eq_true_eq] at hw
          exact hw
      rcases Nat.eq_zero_or_pos n with h0 | h0
      · exact .inl ⟨h0, _, _, by rw [h0]⟩
      · refine .inr ⟨b, o, none, c, ⟨0, false, absRow W b⟩, rfl, ?_, fun j hj => ?_⟩
        · obtain ⟨z, hz, _⟩ := each 0 h0
          exact (zgR hz).2.1
        · obtain ⟨z, hz, z1, z2⟩ := each j hj
          exact ⟨z, (zgR hz).2.2, z1, z2⟩
end
end Go.Proofs.YtpienljnoaendaaGreat.A
end
