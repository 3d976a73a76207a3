/- The small logic, fifth text: built-in functions and calls; code and whole functions. No program is named here. -/
import Derived.Test.YtbmpkihggipciaaAbs4
set_option linter.unusedSimpArgs false
set_option linter.unusedVariables false
namespace Go.Abs
open Go Go.RowKit

section
variable {P : Program} {base : Nat} {ρ : Nat → Nat} {H : AH} {w : World} {t : T} {tmps : Array Value} {dst : Option Tmp} {ty : TypeId} {pos : String} {af : Array Edge} {gd : Option (Nat × Bool)}

theorem run_append_none (w : World) {T0 e : TypeId} {i : TypeInfo} (ht : P.underlying T0 = some (.slice e)) (hi : P.info? e = some i) (b a : Option Addr) (n c c' : Nat) (hle : n ≤ c) :
    (Builtin.append_ #[T0, T0] ty #[.slice b n c, .slice a 0 c']).run P w = .ok (.slice b n c) w := by
  have hf : (Builtin.firstCells i.size 0 (.slice a 0 c')).run P w = .ok #[] w := by
    cases a with
    | none => simp [Builtin.firstCells]
    | some a => simp [Builtin.firstCells, loadCells, loadCellsFrom]
  cases b with
  | none => simp [Builtin.append_, run_underlying ht, Go.sizeOf, typeInfo, hi, Builtin.lenOf, hle, hf]
  | some b => simp [Builtin.append_, run_underlying ht, Go.sizeOf, typeInfo, hi, Builtin.lenOf, hle, hf, storeCells]

theorem run_append_fits' (w : World) {T0 e : TypeId} {i : TypeInfo} (ht : P.underlying T0 = some (.slice e)) (hi : P.info? e = some i) (g q sLen sCap : Nat) (cur : Array Value) (rt : TypeId) (hg : w.heap[g]? = some (.cells cur rt (0, 0)))
    (a : Addr) (m c : Nat) (news : List Value) (hl : news.length = m * i.size) (hnews : ∀ j u, news[j]? = some u → w.cell? (a.add j) = some u) (h1 : ∀ u ∈ news, u.oneCell' = true)
    (hroom : sLen + m ≤ sCap) (hfit : q + sLen * i.size + news.length ≤ cur.size) :
    (Builtin.append_ #[T0, T0] ty #[.slice (some ⟨g, q, none⟩) sLen sCap, .slice (some a) m c]).run P w =
      .ok (.slice (some ⟨g, q, none⟩) (sLen + m) sCap) (w.setRow g (splice cur.toList (q + sLen * i.size) news).toArray) := by
  have hf := run_firstCells_some (P := P) w i.size m a m c news hl hnews
  have hst := run_storeCells_at P g (q + sLen * i.size) rt news 0 cur w hg (by simpa using hfit) h1
  simp only [Nat.add_zero] at hst
  simp [Builtin.append_, run_underlying ht, Go.sizeOf, typeInfo, hi, Builtin.lenOf, hroom, hf, Addr.add_lit, hst, splice]

theorem grownCap_ge (w : World) (need old : Nat) (e : TypeId) : need ≤ grownCap w need old e := by
  unfold grownCap Question.cut
  simp

theorem bsz_new (w : World) (cs : Array Value) (e : TypeId) : bsz (w.alloc (.cells cs e)) w.heap.size = some cs.size := by
  unfold bsz
  have : (w.alloc (.cells cs e)).heap[w.heap.size]? = some (.cells cs e) := by
    show (w.heap.push _)[w.heap.size]? = _
    simp
  rw [this]

/-- The row that an append lays when it grows. -/
theorem grown_ok (R : Rel base ρ H w) {H0 : AH} (R0 : Rel base ρ H0 w) (hn : H0.next = H.next) {e : TypeId} {E : TI} {i : TypeInfo} {z : Value} (hs : E.size = i.size) (hz : z.cells.size = i.size)
    {xs : List Value} {ys : List Value} (hL : L1 ρ H.next w xs ys) (m need old : Nat) (hm : xs.length = need * E.size) :
    ∃ ρ', Rel base ρ' (H0.push ⟨e, true, xs⟩) (w.drew.alloc (.cells (ys.toArray ++ Builtin.zeroCells z.cells (grownCap w need old e - need)) e)) ∧
      Ext base ρ H.next w ρ' (H0.push ⟨e, true, xs⟩).next (w.drew.alloc (.cells (ys.toArray ++ Builtin.zeroCells z.cells (grownCap w need old e - need)) e)) ∧
      VR ρ' (H0.push ⟨e, true, xs⟩).next (w.drew.alloc (.cells (ys.toArray ++ Builtin.zeroCells z.cells (grownCap w need old e - need)) e))
        (.slice (some ⟨H.next, 0, some E.size⟩) need need) (.slice (some ⟨w.heap.size, 0, none⟩) need (grownCap w need old e)) := by
  have Rd := R0.drew
  have Ed : Ext base ρ H.next w ρ H.next w.drew := ext_drew w
  have hL' : L1 ρ H0.next w.drew xs ((ys.toArray ++ Builtin.zeroCells z.cells (grownCap w need old e - need)).toList.take xs.length) := by
    rw [hn]
    have : (ys.toArray ++ Builtin.zeroCells z.cells (grownCap w need old e - need)).toList.take xs.length = ys := by
      simp [hL.1]
    rw [this]
    exact hL.ext Ed
  obtain ⟨R', X⟩ := Rd.push e xs _ hL'
  refine ⟨_, R', ?_, ?_⟩
  · exact Ed.trans (hn ▸ X)
  · have hge := grownCap_ge w need old e
    have h := VR.one (V1.slu (ρ := ren ρ H0.next w.drew.heap.size) (nx := H0.next + 1) (w := w.drew.alloc (.cells (ys.toArray ++ Builtin.zeroCells z.cells (grownCap w need old e - need)) e)) H0.next 0 need need E.size ⟨ren ρ H0.next w.drew.heap.size H0.next, 0, none⟩ (grownCap w need old e) (Nat.lt_succ_self _) hge
      (.inl ⟨rfl, by
        rw [ren_new, bsz_new]
        have h1 : ys.length = need * E.size := by rw [← hL.1]; exact hm
        simp only [Array.size_append, List.size_toArray, size_zeroCells, h1, hz, ← hs]
        congr 1
        rw [Nat.zero_add, ← Nat.add_mul]
        congr 1
        omega⟩))
    rw [ren_new] at h
    rw [← hn]
    exact h

theorem s_append (R : Rel base ρ H w) {o : Oper} {T0 e : TypeId} {E : TI} (hu : P.underlying T0 = some (.slice e)) (K : TIOK P e E) {s s' x x' : Value} (hS : VR ρ H.next w s s') (hX : VR ρ H.next w x x')
    (hr : ∀ v w', (Builtin.append_ #[T0, T0] ty #[s', x']).run P w = .ok v w' → (execOp (Act.eval ⟨tmps, []⟩) o).run P w = .ok (.value v) w') :
    OutS P o tmps base ρ H w (slCells H E.size x fun xs m => appE E e s xs m H) := by
  obtain ⟨i, z, hi, hz, hsz, hbz, hzz, _, hzsz⟩ := K.info
  -- nothing is appended
  have none0 : ∀ a c, x' = .slice a 0 c → OutS P o tmps base ρ H w (asSl s (.val s H) fun _ _ u n c => .need (u.isNone = true → n ≤ c) (.val s H)) := by
    intro a c hx
    subst hx
    refine .sl (fun n c hs => ?_) fun i' o' u n c hs => ?_
    · subst hs
      obtain ⟨rfl, rfl, es⟩ := hS.nils
      subst es
      exact .keep R (hr _ _ (run_append_none w hu hi _ _ _ _ _ (Nat.le_refl _))) hS
    · intro hle
      subst hs
      cases u with
      | none =>
        obtain ⟨_, es⟩ := hS.sle
        subst es
        exact .keep R (hr _ _ (run_append_none w hu hi _ _ _ _ _ (hle rfl))) hS
      | some zz =>
        obtain ⟨_, _, _, es, hle, _⟩ := hS.slu
        subst es
        exact .keep R (hr _ _ (run_append_none w hu hi _ _ _ _ _ hle)) hS
  unfold slCells
  refine .sl (fun n c hx => ?_) fun ix ox ux m cx hx => .bind fun rx hrx => ?_
  · subst hx
    obtain ⟨rfl, rfl, ex⟩ := hX.nils
    show OutS P o tmps base ρ H w (appE E e s [] 0 H)
    unfold appE
    rw [if_pos rfl]
    exact none0 _ _ ex
  · rintro ⟨hxl, hxk⟩
    subst hx
    have hx2 : ∃ ax cx', x' = .slice (some ax) m cx' ∧ (ax = ⟨ρ ix, ox, none⟩ ∨ m = 0) := by
      cases ux with
      | none => obtain ⟨_, ex⟩ := hX.sle; exact ⟨_, _, ex, .inl rfl⟩
      | some zz => obtain ⟨_, ox', cx', ex, _, hq⟩ := hX.slu; exact ⟨ox', cx', ex, hq.imp (fun h => h.1) (fun h => h.1)⟩
    obtain ⟨ax, cx', ex, hox⟩ := hx2
    show OutS P o tmps base ρ H w (appE E e s (seg rx.cells ox (m * E.size)) m H)
    unfold appE
    split
    · rename_i hm0
      subst hm0
      exact none0 _ _ ex
    · rename_i hm0
      have hox : ax = ⟨ρ ix, ox, none⟩ := by rcases hox with h | h; exact h; exact absurd h hm0
      subst hox
      obtain ⟨ys, hyl, hyc, hL⟩ := R.cells hrx hxl hxk
      have hnews : ∀ j u, ys[j]? = some u → w.cell? ((⟨ρ ix, ox, none⟩ : Addr).add j) = some u := fun j u hj => by rw [Addr.add_lit]; exact hyc j u hj
      have hyl' : ys.length = m * i.size := by rw [hyl, hsz]
      subst ex
      change L1 ρ H.next w (seg rx.cells ox (m * E.size)) ys at hL
      have hxlen : (seg rx.cells ox (m * E.size)).length = m * E.size := by rw [hL.1, hyl]
      refine .sl (fun n c hs => ?_) fun is os us n c hs => .bind fun rs hrs => ?_
      · rintro ⟨h1, h2⟩
        subst hs
        obtain ⟨rfl, rfl, es⟩ := hS.nils
        subst es
        have h48 : m * i.bytes ≤ 281474976710656 := by
          rw [← hbz]
          calc m * E.bytes ≤ 4294967296 * 32768 := Nat.mul_le_mul h1 h2
            _ ≤ 281474976710656 := by decide
        have hrun := run_append_nil (P := P) w T0 ty e i z hu hi hz ⟨ρ ix, ox, none⟩ m cx' ys hyl' hnews (by omega) (by omega) h48
        obtain ⟨ρ', R', X, hV⟩ := grown_ok R R rfl hsz hzsz hL m m 0 hxlen (e := e)
        exact ⟨_, _, ρ', hr _ _ hrun, R', X, hV⟩
      · rintro ⟨h1, h2, h3, h4⟩
        subst hs
        have hnz : (n + m) * i.bytes ≤ 140737488355328 := by
          rw [← hbz]
          calc (n + m) * E.bytes ≤ 4294967296 * 32768 := Nat.mul_le_mul h1 h2
            _ = 140737488355328 := by decide
        obtain ⟨ysO, holl, holc, hLo⟩ := R.cells hrs h3 h4
        change L1 ρ H.next w (seg rs.cells os (n * E.size)) ysO at hLo
        have holen : (seg rs.cells os (n * E.size)).length = n * E.size := by rw [hLo.1, holl]
        have hcat : L1 ρ H.next w (seg rs.cells os (n * E.size) ++ seg rx.cells ox (m * E.size)) (ysO ++ ys) := hLo.append hL
        have hcatl : (seg rs.cells os (n * E.size) ++ seg rx.cells ox (m * E.size)).length = (n + m) * E.size := by
          rw [List.length_append, holen, hxlen, Nat.add_mul]
        -- it grows
        have grow : ∀ (c' : Nat) (H0 : AH), Rel base ρ H0 w → H0.next = H.next → s' = .slice (some ⟨ρ is, os, none⟩) n c' → c' < n + m →
            OutS P o tmps base ρ H w (.val (.slice (some ⟨H.next, 0, some E.size⟩) (n + m) (n + m)) (H0.push ⟨e, true, seg rs.cells os (n * E.size) ++ seg rx.cells ox (m * E.size)⟩)) := by
          intro c' H0 R0 hn0 es hlt
          subst es
          have hfit : Builtin.nextslicecap (n + m) c' * i.bytes ≤ 281474976710656 := by
            have hh := nextslicecap_le (need := n + m) (old := c') hlt
            calc Builtin.nextslicecap (n + m) c' * i.bytes ≤ 2 * (n + m) * i.bytes := Nat.mul_le_mul_right _ hh
              _ = 2 * ((n + m) * i.bytes) := Nat.mul_assoc _ _ _
              _ ≤ 281474976710656 := by omega
          have hrun := run_append_grow (P := P) w T0 ty e i z hu hi hz ⟨ρ is, os, none⟩ n c' ysO (by rw [holl, hsz]) (fun j u hj => by rw [Addr.add_lit]; exact holc j u hj) ⟨ρ ix, ox, none⟩ m cx' ys hyl' hnews hlt (by omega) hfit
          obtain ⟨ρ', R', X, hV⟩ := grown_ok R R0 hn0 hsz hzsz hcat m (n + m) c' hcatl (e := e)
          refine ⟨_, _, ρ', hr _ _ hrun, ?_, ?_, ?_⟩
          · simpa using R'
          · simpa using X
          · simpa using hV
        -- it fits
        have fits : ∀ (c' : Nat), s' = .slice (some ⟨ρ is, os, none⟩) n c' → n + m ≤ c' → rs.rw = true → ∀ cs : Array Value, w.heap[ρ is]? = some (.cells cs rs.ty (0, 0)) → os + (n + m) * E.size ≤ cs.size →
            (execOp (Act.eval ⟨tmps, []⟩) o).run P w = .ok (.value (.slice (some ⟨ρ is, os, none⟩) (n + m) c')) (w.setRow (ρ is) (splice cs.toList (os + n * E.size) ys).toArray) := by
          intro c' es hle hb cs hcs hsize
          subst es
          have := run_append_fits' (P := P) (ty := ty) w hu hi (ρ is) os n c' cs rs.ty hcs ⟨ρ ix, ox, none⟩ m cx' ys hyl' hnews hL.all hle (by rw [hyl', Nat.add_assoc, ← Nat.add_mul, ← hsz]; exact hsize)
          rw [← hsz] at this
          exact hr _ _ this
        cases us with
        | none =>
          obtain ⟨his, es⟩ := hS.sle
          simp only
          split
          · rename_i hle
            rintro ⟨hb, hlen⟩
            obtain ⟨_, cs, hcs, hl⟩ := R.rwr is rs hrs hb
            have hlecs := Rel.lenLe hl
            have hrun := fits c es hle hb cs hcs (by omega)
            have hspl : (splice cs.toList (os + n * E.size) ys).length = cs.size := by
              rw [splice_length _ _ _ (by rw [hyl, Nat.add_assoc, ← Nat.add_mul]; simp; omega)]; simp
            have hsl : (splice rs.cells (os + n * E.size) (seg rx.cells ox (m * E.size))).length = rs.cells.length := splice_length _ _ _ (by rw [hxlen, Nat.add_assoc, ← Nat.add_mul]; exact hlen)
            obtain ⟨R', X⟩ := R.set hrs hb hcs (cs := (splice cs.toList (os + n * E.size) ys).toArray) (xs := splice rs.cells (os + n * E.size) (seg rx.cells ox (m * E.size))) (by simpa using hspl) (by
              rw [hsl]
              simp only [List.toList_toArray]
              rw [take_splice _ _ _ _ (by rw [hyl, Nat.add_assoc, ← Nat.add_mul]; exact hlen) (by simpa using hlecs)]
              exact hl.splice hL _)
            exact ⟨_, _, ρ, hrun, R', X, .one (.sle _ _ _ _ his)⟩
          · rename_i hle
            exact grow c H R rfl es (by omega)
        | some zz =>
          obtain ⟨his, os', c', es, hnc, hoff⟩ := hS.slu
          simp only
          split
          · rename_i hlen
            rintro ⟨hb, hzE, hE0, hn0⟩
            have ho : os' = ⟨ρ is, os, none⟩ := by
              rcases hoff with h | h
              · exact h.1
              · omega
            subst ho
            have hbs : bsz w (ρ is) = some (os + c' * zz) := by rcases hoff with h | h; exact h.2; omega
            obtain ⟨_, cs, hcs, hl⟩ := R.rwr is rs hrs hb
            have hlecs := Rel.lenLe hl
            have hcsz : cs.size = os + c' * E.size := by
              unfold bsz at hbs; rw [hcs] at hbs; simp at hbs; rw [hbs, hzE]
            have hle : n + m ≤ c' := by
              have : (n + m) * E.size ≤ c' * E.size := by omega
              exact Nat.le_of_mul_le_mul_right this hE0
            have hrun := fits c' es hle hb cs hcs (by omega)
            have hspl : (splice cs.toList (os + n * E.size) ys).length = cs.size := by
              rw [splice_length _ _ _ (by rw [hyl, Nat.add_assoc, ← Nat.add_mul]; simp; omega)]; simp
            have hsl : (splice rs.cells (os + n * E.size) (seg rx.cells ox (m * E.size))).length = rs.cells.length := splice_length _ _ _ (by rw [hxlen, Nat.add_assoc, ← Nat.add_mul]; exact hlen)
            obtain ⟨R', X⟩ := R.set hrs hb hcs (cs := (splice cs.toList (os + n * E.size) ys).toArray) (xs := splice rs.cells (os + n * E.size) (seg rx.cells ox (m * E.size))) (by simpa using hspl) (by
              rw [hsl]
              simp only [List.toList_toArray]
              rw [take_splice _ _ _ _ (by rw [hyl, Nat.add_assoc, ← Nat.add_mul]; exact hlen) (by simpa using hlecs)]
              exact hl.splice hL _)
            exact ⟨_, _, ρ, hrun, R', X, .one (.slu _ _ _ _ _ _ _ his hle (.inl ⟨rfl, X.st _ _ hbs⟩))⟩
          · rename_i hlen
            rintro ⟨hb, hzE, hE0, ho0, hty⟩
            subst ho0
            have ho : os' = ⟨ρ is, 0, none⟩ := by
              rcases hoff with h | h
              · exact h.1
              · omega
            subst ho
            have hbs : bsz w (ρ is) = some (0 + c' * zz) := by rcases hoff with h | h; exact h.2; omega
            obtain ⟨_, cs, hcs, hl⟩ := R.rwr is rs hrs hb
            have hcsz : cs.size = c' * E.size := by
              unfold bsz at hbs; rw [hcs] at hbs; simp at hbs; rw [hbs, hzE]
            have hlecs := Rel.lenLe hl
            rcases Nat.lt_or_ge c' (n + m) with hlt | hge
            · exact grow c' (H.drop is) (R.dropRow is) rfl es hlt
            · have hsz2 : 0 + (n + m) * E.size ≤ cs.size := by
                rw [hcsz, Nat.zero_add]; exact Nat.mul_le_mul_right _ hge
              have hrun := fits c' es hge hb cs hcs hsz2
              have hspl : (splice cs.toList (0 + n * E.size) ys).length = cs.size := by
                rw [splice_length _ _ _ (by rw [hyl, Nat.add_assoc, ← Nat.add_mul]; simp; omega)]; simp
              have hpre : (splice cs.toList (0 + n * E.size) ys).take ((n + m) * E.size) = cs.toList.take (n * E.size) ++ ys := by
                unfold splice
                rw [Nat.zero_add]
                have hl2 : (cs.toList.take (n * E.size) ++ ys).length = (n + m) * E.size := by
                  rw [List.length_append, hyl, Nat.add_mul, List.length_take]
                  have : n * E.size ≤ cs.toList.length := by simp; omega
                  omega
                rw [← hl2, List.take_left']
                rfl
              have hLo' : L1 ρ H.next w (seg rs.cells 0 (n * E.size)) (cs.toList.take (n * E.size)) := by
                unfold seg
                rw [List.drop_zero]
                have h5 := hl.take (n * E.size)
                rw [List.take_take] at h5
                have h6 : min (n * E.size) rs.cells.length = n * E.size := by omega
                rw [h6] at h5
                exact h5
              obtain ⟨R', X⟩ := R.move hrs hb hcs (cs := (splice cs.toList (0 + n * E.size) ys).toArray) (xs := seg rs.cells 0 (n * E.size) ++ seg rx.cells ox (m * E.size)) (by simpa using hspl) (by
                rw [hcatl]
                simp only [List.toList_toArray]
                rw [hpre]
                exact hLo'.append hL)
              rw [hty] at R' X
              refine ⟨_, _, _, hrun, R', X, ?_⟩
              have hv := VR.one (V1.slu (ρ := ren ρ H.next (ρ is)) (nx := H.next + 1) (w := w.setRow (ρ is) (splice cs.toList (0 + n * E.size) ys).toArray) H.next 0 (n + m) (n + m) E.size ⟨ren ρ H.next (ρ is) H.next, 0, none⟩ c' (Nat.lt_succ_self _) hge
                (.inl ⟨rfl, by rw [ren_new]; rw [X.st _ _ hbs, hzE]⟩))
              rw [ren_new] at hv
              exact hv
end
end Go.Abs
