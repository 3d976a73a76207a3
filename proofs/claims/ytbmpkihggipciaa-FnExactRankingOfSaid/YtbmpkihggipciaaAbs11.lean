/- The small logic, eleventh text: what a law is given: the memory behind its arguments as rows that are not ours. No program is named here. -/
import Derived.Test.YtbmpkihggipciaaAbs10
import Derived.ChangeArms
import Derived.OpenShut
import Derived.DataReads
set_option linter.unusedVariables false
namespace Go.Abs
open Go Go.RowKit

/-- A cell of the given memory, as far as we know its kind. -/
def absV (n : Nat) (v : Value) : Value := if scal v = true then v else match v with
  | .slice (some _) 0 c => if 0 < n then .slice (some ⟨0, 1, some 0⟩) 0 c else undef
  | .slice (some ⟨b, o, none⟩) l c => if b < n then .slice (some ⟨b, o, none⟩) l c else undef
  | _ => undef

def absRow (w : World) (b : Nat) : List Value := match bsz w b with
  | some k => (List.range k).map fun j => match w.cell? ⟨b, j, none⟩ with | some v => absV w.heap.size v | none => undef
  | none => []

def given (w : World) : AH := ⟨w.heap.size, fun b => if b < w.heap.size then some ⟨0, false, absRow w b⟩ else none⟩

theorem absV_rel (w : World) (v : Value) (h : (absV w.heap.size v).oneCell' = true) : V1 id w.heap.size w (absV w.heap.size v) v := by
  unfold absV at h ⊢
  by_cases hs : scal v = true
  · rw [if_pos hs]; exact .scal v hs
  · rw [if_neg hs] at h ⊢
    split at h
    · rename_i a c
      by_cases hb : 0 < w.heap.size
      · simp only [hb, if_true]; exact .slu 0 1 0 c 0 a c hb (Nat.zero_le _) (.inr ⟨rfl, Nat.zero_lt_one⟩)
      · simp [hb, undef, Value.oneCell'] at h
    · rename_i b o l c _
      by_cases hb : b < w.heap.size
      · simp only [hb, if_true]; exact V1.sle (ρ := id) b o l c hb
      · simp [hb, undef, Value.oneCell'] at h
    · simp [undef, Value.oneCell'] at h

theorem given_rel (w : World) : Rel w.heap.size id (given w) w := by
  refine ⟨fun i r hr => ?_, fun i r hr hb => ?_, fun i r hr hb => ?_, fun i j r s hr hs hb => ?_, Nat.le_refl _⟩
  · simp only [given] at hr ⊢; split at hr
    · assumption
    · cases hr
  · simp only [given] at hr ⊢; split at hr
    · rename_i hi
      cases hr
      refine ⟨hi, fun j v hv ho => ?_⟩
      unfold absRow at hv
      split at hv
      · simp only [List.getElem?_map, Option.map_eq_some_iff] at hv
        obtain ⟨j', hj', hv⟩ := hv
        have : j' = j := by
          rw [List.getElem?_range (by simpa using (List.getElem?_eq_some_iff.1 hj').1)] at hj'
          simpa using hj'.symm
        subst this
        split at hv
        · rename_i v' hc
          subst hv
          exact ⟨v', hc, absV_rel w v' ho⟩
        · subst hv; simp [undef, Value.oneCell'] at ho
      · simp at hv
    · cases hr
  · simp only [given] at hr; split at hr
    · cases hr; simp at hb
    · cases hr
  · simp only [given] at hr; split at hr
    · cases hr; simp at hb
    · cases hr

/-- Where the given memory has integers, they are read. -/
theorem given_rd {w : World} {b o n k c : Nat} {zs : List Int} (hk0 : 0 < k) (hb : b < w.heap.size) (hl : zs.length = n * k) (hz : ∀ j, j < n * k → w.cell? ⟨b, o + j, none⟩ = some (.int .i64 (zs.getD j 0))) :
    Rd k (given w) (.slice (some ⟨b, o, none⟩) n c) n zs := by
  refine ⟨hl, ?_⟩
  by_cases hn : n * k = 0
  · have h0 : n = 0 := by
      rcases Nat.mul_eq_zero.1 hn with h | h
      · exact h
      · omega
    subst h0
    exact .inl ⟨rfl, _, c, rfl, fun h => by cases h⟩
  · have h1 := hz 0 (by omega)
    have hsz : ∃ cs t fr, w.heap[b]? = some (.cells cs t fr) := by
      unfold World.cell? at h1
      split at h1
      · rename_i cs t fr he; exact ⟨cs, t, fr, he⟩
      · cases h1
    obtain ⟨cs, t, fr, he⟩ := hsz
    have hk : bsz w b = some cs.size := by simp [bsz, he]
    have hcell : ∀ j, w.cell? ⟨b, j, none⟩ = cs[j]? := fun j => by simp [World.cell?, he]
    have hlast := hz (n * k - 1) (by omega)
    rw [hcell] at hlast
    have hlt := (Array.getElem?_eq_some_iff.1 hlast).1
    have hlen : (absRow w b).length = cs.size := by simp [absRow, hk]
    refine .inr ⟨b, o, none, c, ⟨0, false, absRow w b⟩, rfl, by simp [given, hb], by simp only [hlen]; omega, ?_⟩
    apply List.ext_getElem?
    intro j
    simp only [seg, List.getElem?_take, List.getElem?_drop]
    by_cases hj : j < n * k
    · rw [if_pos hj, ints_get? _ _ (by omega)]
      have h2 := hz j hj
      have h3 : o + j < cs.size := by omega
      simp only [absRow, hk, List.getElem?_map]
      rw [List.getElem?_range h3]
      simp only [Option.map_some, h2, absV, scal, if_true]
    · rw [if_neg hj, List.getElem?_eq_none (by rw [ints_length]; omega)]

/-! ### What the statement's reading tells -/
theorem mapM_each {α β : Type} {f : α → Option β} : ∀ {l : List α} {ys : List β}, l.mapM f = some ys → ∀ x ∈ l, ∃ y, f x = some y
  | [], _, _, x, hx => by cases hx
  | a :: l, ys, h, x, hx => by
    rw [List.mapM_cons] at h
    cases ha : f a with
    | none => rw [ha] at h; cases h
    | some y =>
      rw [ha] at h
      cases hl : l.mapM f with
      | none => rw [hl] at h; cases h
      | some zs =>
        rcases List.mem_cons.1 hx with rfl | hx
        · exact ⟨y, ha⟩
        · exact mapM_each hl x hx

section
variable {H : Type} {enc : TypeId × Value → H} {P : Program} {w : World} {base : Nat} {spare : Nat → Bool} {held : Bool}

/-- A type whose cells are all integers (int64 or int), as far as a reading tells. -/
def IntsOf (enc : TypeId × Value → H) (P : Program) (w : World) (base : Nat) (spare : Nat → Bool) (held : Bool) (e : TypeId) : Prop :=
  ∀ fuel cs x, DataW.trod enc P w base spare held fuel e cs = some x → ∀ c ∈ cs, ∃ z, c = Value.int .i64 z

theorem intsOf_int {e : TypeId} (he : P.underlying e = some (.int .i64)) : IntsOf enc P w base spare held e := by
  intro fuel cs x h c hc
  obtain ⟨n, rfl, _⟩ := DataW.trod_int he h
  simp at hc; exact ⟨n, hc⟩

theorem intsOf_array {t e : TypeId} {n : Nat} (ht : P.underlying t = some (.array n e)) (he : P.underlying e = some (.int .i64)) (hc : P.cellsOf e = 1) (hct : P.cellsOf t = n) : IntsOf enc P w base spare held t := by
  intro fuel cs x h c hc'
  cases fuel with
  | zero => simp [DataW.trod] at h
  | succ m =>
    unfold DataW.trod at h
    rw [ht] at h
    simp only at h
    split at h
    · rename_i hl
      obtain ⟨i, hi, rfl⟩ := List.mem_iff_getElem.1 hc'
      cases hm : (List.range n).mapM fun i => DataW.trod enc P w base spare held m e ((cs.drop (i * P.cellsOf e)).take (P.cellsOf e)) with
      | none => rw [hm] at h; cases h
      | some ys =>
        obtain ⟨y, hy⟩ := mapM_each hm i (by simp; omega)
        rw [hc, Nat.mul_one] at hy
        obtain ⟨z, hz, _⟩ := DataW.trod_int he hy
        rw [List.drop_eq_getElem_cons hi, List.take_succ_cons, List.take_zero] at hz
        exact ⟨z, by simpa using hz⟩
    · cases h

/-- A slice of elements whose cells are integers. -/
theorem trod_ints {t e : TypeId} {k fuel : Nat} {x : DataW H × List MemPlace} {v : Value} (ht : P.underlying t = some (.slice e)) (hk : P.cellsOf e = k) (hk0 : 0 < k) (hi : IntsOf enc P w base spare held e)
    (h : DataW.trod enc P w base spare held fuel t [v] = some x) (hv : v = .slice none 0 0 ∨ ∃ b o n c, v = .slice (some ⟨b, o, none⟩) n c ∧ b < w.heap.size) :
    ∃ n zs, Rd k (given w) v n zs ∧ V1 id w.heap.size w v v ∧ (v = .slice none 0 0 ∧ n = 0 ∨ ∃ b o c, v = .slice (some ⟨b, o, none⟩) n c) := by
  rcases hv with rfl | ⟨b, o, n, c, rfl, hb⟩
  · exact ⟨0, [], ⟨by simp, .inl ⟨rfl, _, 0, rfl, fun _ => rfl⟩⟩, .scal _ rfl, .inl ⟨rfl, rfl⟩⟩
  · rcases DataW.trod_slice ht h with ⟨h0, _⟩ | ⟨a, len, cap, elems, rest, m, _, hcs, _, _, _, _, hlen, hel, _, _⟩
    · simp at h0
    · simp only [List.cons.injEq, Value.slice.injEq, Option.some.injEq, and_true] at hcs
      obtain ⟨rfl, rfl, rfl⟩ := hcs
      have each : ∀ j, j < n * k → ∃ z, w.cell? ⟨b, o + j, none⟩ = some (.int .i64 z) := by
        intro j hj
        have hq : j / k < n := Nat.div_lt_of_lt_mul (by rw [Nat.mul_comm]; exact hj)
        have h1 := hel (j / k) hq
        rw [List.getElem?_eq_getElem (by omega), hk, Option.bind_eq_some_iff] at h1
        obtain ⟨cs', hc1, hc2⟩ := h1
        obtain ⟨_, hl, hc⟩ := World.cells?_some hc1
        have hr : j % k < k := Nat.mod_lt _ hk0
        have h2 := hc (j % k) hr
        obtain ⟨z, hz⟩ := hi _ _ _ hc2 (cs'[j % k]'(by omega)) (List.getElem_mem _)
        refine ⟨z, ?_⟩
        rw [List.getElem?_eq_getElem (by omega), hz] at h2
        rw [← h2]
        rw [Addr.add_lit, Addr.add_lit]
        have := Nat.div_add_mod j k
        rw [Nat.mul_comm] at this
        rw [Nat.add_assoc, this]
      let zs : List Int := (List.range (n * k)).map fun j => match w.cell? ⟨b, o + j, none⟩ with | some (.int _ z) => z | _ => 0
      refine ⟨n, zs, given_rd hk0 hb (by simp [zs]) (fun j hj => ?_), V1.sle (ρ := id) b o n c hb, .inr ⟨b, o, c, rfl⟩⟩
      obtain ⟨z, hz⟩ := each j hj
      rw [hz]
      simp [zs, hj, hz]
end

/-- A slice cell of an argument. -/
theorem ok_slice_cell {P : Program} {W : World} {b0 : Nat} {t e : TypeId} {v : Value} (ht : P.underlying t = some (.slice e)) (h : Cell.okWide P W .any b0 t v) :
    v = .slice none 0 0 ∨ ∃ b o n c, v = .slice (some ⟨b, o, none⟩) n c ∧ b < W.heap.size ∧ n ≤ 9223372036854775807 := by
  have h2 : Cell.ok P W .any b0 t v := by
    unfold Cell.okWide at h
    rw [ht] at h
    exact h
  unfold Cell.ok at h2
  rw [ht] at h2
  split at h2 <;> simp_all
  rename_i a len cap _
  obtain ⟨h3, h4, _, hsp, row, cells, hsh, _⟩ := h2
  have hb : a.block < W.heap.size := by
    unfold World.shape? at hsh
    cases hg : W.heap[a.block]? with
    | none => rw [hg] at hsh; cases hsh
    | some o => exact (Array.getElem?_eq_some_iff.1 hg).1
  obtain ⟨b, o, sp⟩ := a
  simp only at hsp
  subst hsp
  exact ⟨b, o, len, ⟨rfl, rfl⟩, hb, by omega⟩

def fieldsOf (P : Program) (t : TypeId) : Option (List (TypeId × Nat)) := match P.underlying t with
  | some (.struct fs) => some (fs.toList.map fun f => (f.type, f.offset))
  | _ => none

section
variable {H : Type} {enc : TypeId × Value → H} {P : Program} {w : World} {base : Nat} {spare : Nat → Bool} {held : Bool}

theorem trod_fields {t : TypeId} {l : List (TypeId × Nat)} {fuel : Nat} {cs : List Value} {x : DataW H × List MemPlace} (ht : fieldsOf P t = some l) (h : DataW.trod enc P w base spare held fuel t cs = some x) :
    ∃ n, ∀ p ∈ l, ∃ y, DataW.trod enc P w base spare held n p.1 ((cs.drop p.2).take (P.cellsOf p.1)) = some y := by
  unfold fieldsOf at ht
  split at ht
  · rename_i fs hu
    cases ht
    obtain ⟨xs, n, _, _, _, hl, hf⟩ := DataW.trod_struct hu h
    refine ⟨n, fun p hp => ?_⟩
    obtain ⟨f, hfm, rfl⟩ := List.mem_map.1 hp
    obtain ⟨i, hi, rfl⟩ := List.mem_iff_getElem.1 hfm
    have hi' : i < fs.size := by simpa using hi
    refine ⟨xs[i]'(by omega), ?_⟩
    rw [hf i (fs.toList[i]) (by simp [hi'])]
    exact List.getElem?_eq_getElem _
  · cases ht

/-- A cell of an argument of a struct type. -/
theorem ok_struct {W : World} {b0 : Nat} {t : TypeId} {v : Value} {l : List (TypeId × Nat)} {ts : List TypeId} (ht : fieldsOf P t = some l) (hc : P.cellTypes P.depth t = some ts) (h : Value.okWide P W .any b0 t v) :
    ∃ cs : Array Value, v = .agg cs ∧ cs.size = P.cellsOf t ∧ ∀ i u, cs[i]? = some u → ∃ e, ts[i % ts.length]? = some e ∧ Cell.okWide P W .any b0 e u := by
  unfold fieldsOf at ht
  split at ht
  · rename_i fs hu
    unfold Value.okWide at h
    rw [hu] at h
    obtain ⟨cs, rfl, hs, ts', h1, _, h2⟩ := h
    rw [hc] at h1
    cases h1
    exact ⟨cs, rfl, hs, h2⟩
  · cases ht
end

/-- A law whose arguments are read out of the given memory. -/
theorem law_end {P : Program} {f : FuncId} {args : List Value} {W : World} (hl : LV id W.heap.size W args args) (h : ACalls P f args (given W) (fun v _ => v = .bool true ∧ True)) :
    Calls P f args.toArray W fun e W' => e = .returned (.bool true) ∧ Below W.heap.size W W' := by
  refine (h.2 W.heap.size id W args (given_rel W) hl).mono ?_
  rintro e w' ⟨v', v, H', ρ', rfl, ⟨rfl, _⟩, R', hV, E⟩
  rw [hV.bool]
  exact ⟨rfl, E.bl⟩
end Go.Abs
