/- The small logic, second text: what an operation does to the abstract heap, and the weakest condition of a piece of code over it. No program is named here. -/
import Derived.Test.YtbmpkihggipciaaAbs1
namespace Go.Abs
open Go Go.RowKit

inductive TD
  | int (k : IntKind) | bool | str | ptr | slice (e : TypeId) | array (n : Nat) (e : TypeId) | struct (fs : List (Nat × TypeId)) | other

def TD.isAgg : TD → Bool
  | .array _ _ | .struct _ => true
  | _ => false

def tdOf : TypeDesc → TD
  | .int k => .int k
  | .bool => .bool
  | .string => .str
  | .pointer _ => .ptr
  | .slice e => .slice e
  | .array n e => .array n e
  | .struct fs => .struct (fs.toList.map fun f => (f.offset, f.type))
  | _ => .other

structure TI where
  d : TD
  size : Nat
  bytes : Nat
  zero : List Value

def noTuple : Value → Bool
  | .tuple _ => false
  | _ => true

def ti (P : Program) (t : TypeId) : Option TI :=
  match P.underlying t, P.info? t with
  | some d, some i =>
    match i.zero with
    | some z => if z.cells.toList.all scal && z.cells.size == i.size && noTuple z then some ⟨tdOf d, i.size, i.bytes, z.cells.toList⟩ else none
    | none => none
  | _, _ => none

abbrev T := Nat → Value
def upd (t : T) (i : Nat) (v : Value) : T := fun j => if j = i then v else t j
def updO (t : T) (d : Option Nat) (v : Value) : T := match d with | none => t | some i => upd t i v

def evo (t : T) : Operand → Option Value
  | .tmp i => some (t i)
  | .const v => if scal v = true then some v else none
  | .func f => some (.func (.func f) #[] #[])
  | .global _ => none

def evs (t : T) : List Operand → Option (List Value)
  | [] => some []
  | x :: xs => (evo t x).bind fun v => (evs t xs).bind fun vs => some (v :: vs)

def evp (t : T) : List (Nat × Operand) → Option (List (Nat × Value))
  | [] => some []
  | (i, x) :: xs => (evo t x).bind fun v => (evp t xs).bind fun vs => some ((i, v) :: vs)

inductive Out
  | val (v : Value) (H : AH)
  | unit (H : AH)
  | call (f : FuncId) (args : List Value)
  | need (p : Prop) (o : Out)
  | stuck

def bindO {α : Type} (x : Option α) (f : α → Out) : Out := match x with | some a => f a | none => .stuck
def asI (v : Value) (f : IntKind → Int → Out) : Out := match v with | .int k n => f k n | _ => .stuck
def asB (v : Value) (f : Bool → Out) : Out := match v with | .bool b => f b | _ => .stuck
def asP (v : Value) (f : Nat → Nat → Out) : Out := match v with | .pointer (some ⟨i, o, none⟩) => f i o | _ => .stuck
def asSl (v : Value) (n0 : Out) (f : Nat → Nat → Option Nat → Nat → Nat → Out) : Out :=
  match v with | .slice none _ _ => n0 | .slice (some ⟨i, o, s⟩) n c => f i o s n c | _ => .stuck
def asAgg (v : Value) (f : List Value → Out) : Out := match v with | .agg cs => f cs.toList | _ => .stuck
def asTup (v : Value) (f : List Value → Out) : Out := match v with | .tuple cs => f cs.toList | _ => .stuck
def asStr (v : Value) (f : ByteArray → Out) : Out := match v with | .string s => f s | _ => .stuck
def asFn (v : Value) (f : FuncId → List Value → Out) : Out := match v with | .func (.func g) first cap => if first.size = 0 then f g cap.toList else .stuck | _ => .stuck
def asCells (v : Value) (f : List Value → Out) : Out := match v with | .agg cs => f cs.toList | .tuple _ => .stuck | v => f [v]
def slT (d : TD) (f : TypeId → Out) : Out := match d with | .slice e => f e | _ => .stuck
def stT (d : TD) (f : List (Nat × TypeId) → Out) : Out := match d with | .struct fs => f fs | _ => .stuck

def seg (l : List Value) (o n : Nat) : List Value := (l.drop o).take n
def splice (l : List Value) (o : Nat) (vs : List Value) : List Value := l.take o ++ vs ++ l.drop (o + vs.length)
def zeros (n : Nat) (z : List Value) : List Value := (List.replicate n z).flatten

def fillL (place : Nat → Option (Nat × Nat)) : List Value → List (Nat × Value) → Option (List Value)
  | cs, [] => some cs
  | cs, (i, v) :: rest => (place i).bind fun p =>
      if v.cells.size = p.2 ∧ p.1 + p.2 ≤ cs.length ∧ noTuple v = true then fillL place (splice cs p.1 v.cells.toList) rest else none

/-- Where the parts of a struct or an array lie. -/
def placesOf (P : Program) : List (Nat × TypeId) → Option (List (Nat × Nat))
  | [] => some []
  | (o, t) :: fs => (ti P t).bind fun I => (placesOf P fs).bind fun ps => some ((o, I.size) :: ps)

def placeT (P : Program) (d : TD) : Option (Nat → Option (Nat × Nat)) :=
  match d with
  | .struct fs => (placesOf P fs).bind fun ps => some (fun i => ps[i]?)
  | .array _ e => (ti P e).bind fun E => some (fun i => some (i * E.size, E.size))
  | _ => none

def binI (op : BinOp) (k : IntKind) (a b : Int) (H : AH) : Out :=
  match op with
  | .add => .val (.int k (k.wrap (a + b))) H
  | .sub => .val (.int k (k.wrap (a - b))) H
  | .mul => .val (.int k (k.wrap (a * b))) H
  | .quo => .need (b ≠ 0) (.val (.int k (k.wrap (a.tdiv b))) H)
  | .rem => .need (b ≠ 0) (.val (.int k (a.tmod b)) H)
  | .and => .val (.int k (k.wrap (BitVec.ofInt k.bits a &&& BitVec.ofInt k.bits b).toNat)) H
  | .or => .val (.int k (k.wrap (BitVec.ofInt k.bits a ||| BitVec.ofInt k.bits b).toNat)) H
  | .xor => .val (.int k (k.wrap (BitVec.ofInt k.bits a ^^^ BitVec.ofInt k.bits b).toNat)) H
  | .eql => .val (.bool (a == b)) H
  | .neq => .val (.bool (a != b)) H
  | .lss => .val (.bool (decide (a < b))) H
  | .leq => .val (.bool (decide (a ≤ b))) H
  | .gtr => .val (.bool (decide (b < a))) H
  | .geq => .val (.bool (decide (b ≤ a))) H
  | _ => .stuck

def binE (op : BinOp) (d : TD) (a b : Value) (H : AH) : Out :=
  match a, b with
  | .int k x, .int k' y =>
    match op with
    | .shl => .need (0 ≤ y) (.val (.int k (k.wrap (x * 2 ^ (min y.toNat k.bits)))) H)
    | .shr => .need (0 ≤ y) (.val (.int k (x.fdiv (2 ^ (min y.toNat k.bits)))) H)
    | op => .need (k = k') (binI op k x y H)
  | .bool x, .bool y =>
    match op, d with
    | .eql, .bool => .val (.bool (x == y)) H
    | .neq, .bool => .val (.bool (!(x == y))) H
    | _, _ => .stuck
  | .string x, .string y =>
    match op with
    | .add => .need (x.size + y.size ≤ 4611686018427387904) (.val (.string (x ++ y)) H)
    | .eql => .val (.bool (x.toList == y.toList)) H
    | .neq => .val (.bool (!(x.toList == y.toList))) H
    | _ => .stuck
  | .slice none _ _, .slice q _ _ =>
    match op, d with
    | .eql, .slice _ => .val (.bool q.isNone) H
    | .neq, .slice _ => .val (.bool (!q.isNone)) H
    | _, _ => .stuck
  | .slice (some _) _ _, .slice none _ _ =>
    match op, d with
    | .eql, .slice _ => .val (.bool false) H
    | .neq, .slice _ => .val (.bool true) H
    | _, _ => .stuck
  | _, _ => .stuck

def unE (op : UnOp) (a : Value) (H : AH) : Out :=
  match op, a with
  | .neg, .int k n => .val (.int k (k.wrap (0 - n))) H
  | .not, .bool b => .val (.bool !b) H
  | _, _ => .stuck

def convE (s d : TD) (a : Value) (H : AH) : Out :=
  match s, d, a with
  | .int _, .int k, .int _ n => .val (.int k (k.wrap n)) H
  | .str, .str, .string s => .val (.string s) H
  | _, _, _ => .stuck

def okNil (v : Value) (o : Out) : Out := match v with | .pointer (some _) => o | .func (.func _) _ _ => o | _ => .stuck

/-- A bound of a slice expression, with what it is where none is given. -/
def bnd (t : T) (x : Option Operand) (dflt : Int) (f : Int → Out) : Out :=
  match x with | none => f dflt | some x => bindO (evo t x) fun v => asI v fun _ n => f n

/-- The cells behind a slice value. -/
def slCells (H : AH) (e : Nat) (v : Value) (f : List Value → Nat → Out) : Out :=
  asSl v (f [] 0) fun i o _ n _ => bindO (H.row i) fun r => .need (o + n * e ≤ r.cells.length ∧ r.ok (seg r.cells o (n * e))) (f (seg r.cells o (n * e)) n)

def appE (E : TI) (e : TypeId) (s : Value) (xs : List Value) (m : Nat) (H : AH) : Out :=
  if m = 0 then asSl s (.val s H) fun _ _ u n c => .need (u.isNone = true → n ≤ c) (.val s H) else
  asSl s
    (.need (m ≤ 4294967296 ∧ E.bytes ≤ 32768) (.val (.slice (some ⟨H.next, 0, some E.size⟩) m m) (H.push ⟨e, true, xs⟩)))
    fun i o u n c => bindO (H.row i) fun r => .need (n + m ≤ 4294967296 ∧ E.bytes ≤ 32768 ∧ o + n * E.size ≤ r.cells.length ∧ r.ok (seg r.cells o (n * E.size)))
      (match u with
      | none =>
        if n + m ≤ c then .need (r.rw = true ∧ o + (n + m) * E.size ≤ r.cells.length) (.val (.slice (some ⟨i, o, none⟩) (n + m) c) (H.setCells i (splice r.cells (o + n * E.size) xs)))
        else .val (.slice (some ⟨H.next, 0, some E.size⟩) (n + m) (n + m)) (H.push ⟨e, true, seg r.cells o (n * E.size) ++ xs⟩)
      | some z =>
        if o + (n + m) * E.size ≤ r.cells.length then .need (r.rw = true ∧ z = E.size ∧ 0 < E.size ∧ 0 < n) (.val (.slice (some ⟨i, o, some z⟩) (n + m) (n + m)) (H.setCells i (splice r.cells (o + n * E.size) xs)))
        else .need (r.rw = true ∧ z = E.size ∧ 0 < E.size ∧ o = 0 ∧ r.ty = e) (.val (.slice (some ⟨H.next, 0, some E.size⟩) (n + m) (n + m)) ((H.drop i).push ⟨e, true, seg r.cells 0 (n * E.size) ++ xs⟩)))

def builtE (P : Program) (b : Builtin) (ts : List TypeId) (vs : List Value) (H : AH) : Out :=
  match b, ts, vs with
  | .len, [t], [v] => bindO (ti P t) fun I =>
    match I.d with
    | .array n _ => .val (.int .i64 n) H
    | .slice _ => asSl v (.val (.int .i64 0) H) fun _ _ _ n _ => .val (.int .i64 n) H
    | .str => asStr v fun s => .val (.int .i64 s.size) H
    | _ => .stuck
  | .append, [t, t'], [s, x] => .need (t' = t) (bindO (ti P t) fun I => slT I.d fun e => bindO (ti P e) fun E => slCells H E.size x fun xs m => appE E e s xs m H)
  | _, _, _ => .stuck

def sliceE (E : TI) (v : Value) (lo hi : Option Int) (mx : Option Int) (H : AH) : Out :=
  if mx.isSome = true ∧ hi.isSome = false then .stuck else
  asSl v
    (.need (lo.getD 0 = 0 ∧ hi.getD 0 = 0 ∧ mx.getD 0 = 0) (.val (.slice none 0 0) H))
    fun i o u n c =>
      match u with
      | none =>
        .need (0 ≤ lo.getD 0 ∧ lo.getD 0 ≤ hi.getD n ∧ hi.getD n ≤ mx.getD c ∧ mx.getD c ≤ c)
          (.val (.slice (some ⟨i, if mx.getD c = lo.getD 0 then o else o + (lo.getD 0).toNat * E.size, none⟩) ((hi.getD n).toNat - (lo.getD 0).toNat) ((mx.getD c).toNat - (lo.getD 0).toNat)) H)
      | some z =>
        match mx with
        | none => .need (0 ≤ lo.getD 0 ∧ lo.getD 0 ≤ hi.getD n ∧ hi.getD n ≤ n ∧ z = E.size)
          (.val (.slice (some ⟨i, o + (lo.getD 0).toNat * E.size, some z⟩) ((hi.getD n).toNat - (lo.getD 0).toNat) ((hi.getD n).toNat - (lo.getD 0).toNat)) H)
        | some m => .need (0 ≤ lo.getD 0 ∧ lo.getD 0 ≤ hi.getD n ∧ hi.getD n ≤ m ∧ m ≤ n ∧ 0 < n)
          (.val (.slice (some ⟨i, if m = lo.getD 0 then o else o + (lo.getD 0).toNat * E.size, none⟩) ((hi.getD n).toNat - (lo.getD 0).toNat) (m.toNat - (lo.getD 0).toNat)) H)

def oI (t : T) (x : Option Operand) (f : Option Int → Out) : Out :=
  match x with | none => f none | some x => bindO (evo t x) fun v => asI v fun _ n => f (some n)

def evalOp (P : Program) (t : T) (H : AH) : Op → Out
  | .move x => bindO (evo t x) fun v => .val v H
  | .assign x => bindO (evo t x) fun v => .val v H
  | .pick c a b => bindO (evo t c) fun vc => bindO (evo t a) fun va => bindO (evo t b) fun vb => asB vc fun q => .val (if q = true then va else vb) H
  | .alloc e => bindO (ti P e) fun I => .val (.pointer (some ⟨H.next, 0, none⟩)) (H.push ⟨e, true, I.zero⟩)
  | .box e x => bindO (evo t x) fun v => asCells v fun cs => .val (.pointer (some ⟨H.next, 0, none⟩)) (H.push ⟨e, true, cs⟩)
  | .build ty parts => bindO (ti P ty) fun I => bindO (evp t parts.toList) fun ps => bindO (placeT P I.d) fun pl => bindO (fillL pl I.zero ps) fun cs => .val (.agg cs.toArray) H
  | .buildSlice ty len parts => bindO (ti P ty) fun I => slT I.d fun e => bindO (ti P e) fun E => bindO (evp t parts.toList) fun ps =>
      bindO (fillL (fun i => some (i * E.size, E.size)) (zeros len E.zero) ps) fun cs => .need (len * E.size ≤ 16777216) (.val (.slice (some ⟨H.next, 0, some E.size⟩) len len) (H.push ⟨e, true, cs⟩))
  | .load ty a => bindO (ti P ty) fun I => bindO (evo t a) fun v => asP v fun i o => bindO (H.row i) fun r =>
      if I.d.isAgg = true then .need (o + I.size ≤ r.cells.length ∧ r.ok (seg r.cells o I.size)) (.val (.agg (seg r.cells o I.size).toArray) H) else bindO (r.cells[o]?) fun x => .need (r.ok [x]) (.val x H)
  | .store ty a x => bindO (ti P ty) fun I => bindO (evo t a) fun va => asP va fun i o => bindO (evo t x) fun v => bindO (H.row i) fun r =>
      if I.d.isAgg = true then asAgg v fun cs => .need (r.rw = true ∧ cs.length = I.size ∧ o + I.size ≤ r.cells.length) (.unit (H.setCells i (splice r.cells o cs)))
      else .need (r.rw = true ∧ v.oneCell' = true ∧ o < r.cells.length ∧ I.size = 1) (.unit (H.setCells i (r.cells.set o v)))
  | .nilCheck x => bindO (evo t x) fun v => okNil v (.val v H)
  | .binOp op ty x y _ => bindO (ti P ty) fun I => bindO (evo t x) fun a => bindO (evo t y) fun b => binE op I.d a b H
  | .unOp op _ x => bindO (evo t x) fun a => unE op a H
  | .convert s d x => bindO (ti P s) fun S => bindO (ti P d) fun I => bindO (evo t x) fun a => convE S.d I.d a H
  | .makeFunc fn first cap => if first.size = 0 then bindO (evs t cap.toList) fun vs => .need (∀ v ∈ vs, v.oneCell' = true) (.val (.func fn #[] vs.toArray) H) else .stuck
  | .makeSlice ty l c => bindO (ti P ty) fun I => slT I.d fun e => bindO (ti P e) fun E => bindO (evo t l) fun vl => bindO (evo t c) fun vc => asI vl fun _ l => asI vc fun _ c =>
      .need (0 ≤ l ∧ l ≤ c ∧ c ≤ 4294967296 ∧ E.bytes ≤ 65536) (.val (.slice (some ⟨H.next, 0, some E.size⟩) l.toNat l.toNat) (H.push ⟨e, true, zeros c.toNat E.zero⟩))
  | .slice ty x lo hi mx => bindO (ti P ty) fun I => bindO (evo t x) fun v =>
      match I.d with
      | .slice e => bindO (ti P e) fun E => oI t lo fun lo => oI t hi fun hi => oI t mx fun mx => sliceE E v lo hi mx H
      | .str => if mx.isNone = true then asStr v fun s => oI t lo fun lo => oI t hi fun hi => .need (0 ≤ lo.getD 0 ∧ lo.getD 0 ≤ hi.getD s.size ∧ hi.getD s.size ≤ s.size) (.val (.string (s.extract (lo.getD 0).toNat (hi.getD s.size).toNat)) H) else .stuck
      | .array n e => bindO (ti P e) fun E => if mx.isNone = true then asP v fun i o => oI t lo fun lo => oI t hi fun hi => .need (0 ≤ lo.getD 0 ∧ lo.getD 0 ≤ hi.getD n ∧ hi.getD n ≤ n)
          (.val (.slice (some ⟨i, if (n : Int) = lo.getD 0 then o else o + (lo.getD 0).toNat * E.size, none⟩) ((hi.getD n).toNat - (lo.getD 0).toNat) (n - (lo.getD 0).toNat)) H) else .stuck
      | _ => .stuck
  | .fieldAddr ty x f => bindO (ti P ty) fun I => stT I.d fun fs => bindO (fs[f]?) fun q => bindO (ti P q.2) fun F => bindO (evo t x) fun v => asP v fun i o => .need (F.size ≠ 0) (.val (.pointer (some ⟨i, o + q.1, none⟩)) H)
  | .field ty x f => bindO (ti P ty) fun I => stT I.d fun fs => bindO (fs[f]?) fun q => bindO (ti P q.2) fun F => bindO (evo t x) fun v => asAgg v fun cs =>
      if F.d.isAgg = true then .need (q.1 + F.size ≤ cs.length) (.val (.agg (seg cs q.1 F.size).toArray) H) else bindO (cs[q.1]?) fun x => .val x H
  | .indexAddr ty x ix => bindO (ti P ty) fun I => bindO (evo t x) fun v => bindO (evo t ix) fun vi => asI vi fun _ n =>
      match I.d with
      | .slice e => bindO (ti P e) fun E => asSl v .stuck fun i o _ len _ => .need (0 ≤ n ∧ n < len) (.val (.pointer (some ⟨i, o + n.toNat * E.size, none⟩)) H)
      | .array m e => bindO (ti P e) fun E => asP v fun i o => .need (0 ≤ n ∧ n < m) (.val (.pointer (some ⟨i, o + n.toNat * E.size, none⟩)) H)
      | _ => .stuck
  | .index ty x ix => bindO (ti P ty) fun I => bindO (evo t x) fun v => bindO (evo t ix) fun vi => asI vi fun _ n =>
      match I.d with
      | .array m e => bindO (ti P e) fun E => asAgg v fun cs => .need (0 ≤ n ∧ n < m)
          (if E.d.isAgg = true then .need (n.toNat * E.size + E.size ≤ cs.length) (.val (.agg (seg cs (n.toNat * E.size) E.size).toArray) H) else bindO (cs[n.toNat * E.size]?) fun x => .val x H)
      | .str => asStr v fun s => .need (0 ≤ n ∧ n < s.size) (.val (.int .u8 ((s.data.toList.getD n.toNat 0).toNat : Int)) H)
      | _ => .stuck
  | .extract x i => bindO (evo t x) fun v => asTup v fun vs => bindO (vs[i]?) fun v => .val v H
  | .call c =>
    match c.callee with
    | .value f => bindO (evo t f) fun fv => bindO (evs t c.args.toList) fun vs => asFn fv fun g cap => .call g (vs ++ cap)
    | .builtin b => bindO (evs t c.args.toList) fun vs => builtE P b c.argTypes.toList vs H
    | .invoke _ _ => .stuck
  | _ => .stuck

/-! ### Calls and code -/
def callable (P : Program) (f : FuncId) : Bool :=
  match P.funcs[f]? with
  | some fn => fn.body.isSome && !(fn.name == "runtime.NumGoroutine")
  | none => false

def TR (ρ : Nat → Nat) (nx : Nat) (w : World) (t : T) (tmps : Array Value) : Prop := ∀ i, VR ρ nx w (t i) (tmps.getD i undef)

/-- A proposition whose type names what simp is to leave as it is. -/
abbrev Kept {α : Type} (_ : α) : Type := Prop

def ACalls (P : Program) (f : FuncId) (args : List Value) (H : AH) (R : Value → AH → Prop) : (fun _ => Prop) R :=
  callable P f = true ∧ ∀ base ρ w (args' : List Value), Rel base ρ H w → LV ρ H.next w args args' →
    Calls P f args'.toArray w fun e w' => ∃ v' v H' ρ', e = .returned v' ∧ R v H' ∧ Rel base ρ' H' w' ∧ VR ρ' H'.next w' v v' ∧ Ext base ρ H.next w ρ' H'.next w'

def runOut (P : Program) (H : AH) : Out → (K : Value → AH → Prop) → (fun _ => Prop) K
  | .val v H', K => K v H'
  | .unit H', K => K undef H'
  | .call f args, K => ACalls P f args H K
  | .need p o, K => p ∧ runOut P H o K
  | .stuck, _ => False

def gv (all : List Oper) (t : T) (j : Nat) : Value :=
  match (all[j]?).bind (·.dst) with
  | some d => t d
  | none => undef

def condW (v : Value) (want : Bool) (A B : Prop) : (fun _ => Prop) (A, B) :=
  match v with
  | .bool b => if b = want then A else B
  | .tuple xs => if xs.size = 0 then B else False
  | _ => False

def awpOps (P : Program) (all : List Oper) (Q : T → AH → Prop) : (os : List Oper) → T → AH → (fun _ => Prop) (all, Q, os)
  | [], t, H => Q t H
  | o :: os, t, H =>
    match o.guard with
    | none => runOut P H (evalOp P t H o.op) fun v H' => awpOps P all Q os (updO t o.dst v) H'
    | some g => condW (gv all t g.1) g.2 (runOut P H (evalOp P t H o.op) fun v H' => awpOps P all Q os (updO t o.dst v) H') (awpOps P all Q os (updO t o.dst undef) H)

def St (base : Nat) (ρ : Nat → Nat) (t : T) (H : AH) (tmps : Array Value) (w : World) : Prop := Rel base ρ H w ∧ TR ρ H.next w t tmps

def dstB (n : Nat) : Code → Bool
  | .region _ ops _ => ops.toList.all fun o => match o.dst with | some d => decide (d < n) | none => true
  | .seq a b => dstB n a && dstB n b
  | .cond _ a b => dstB n a && dstB n b
  | .block _ c => dstB n c
  | .loop c => dstB n c
  | _ => true

/-- What a piece of code does, told of the abstract state. -/
def Sem (P : Program) (c : Code) (Q : Exit → T → AH → Prop) (t : T) (H : AH) : Prop :=
  ∀ base ρ w tmps (QC : Exit → Act → World → Prop), St base ρ t H tmps w → dstB tmps.size c = true →
    (∀ e t' H' ρ' w' tmps', Q e t' H' → St base ρ' t' H' tmps' w' → Ext base ρ H.next w ρ' H'.next w' → tmps'.size = tmps.size → QC e ⟨tmps', []⟩ w') →
    c.wp P QC ⟨tmps, []⟩ w

def condC (v : Option Value) (A B : Prop) : (fun _ => Prop) (A, B) :=
  match v with
  | some (.bool b) => if b = true then A else B
  | _ => False

def seqQ (A : T → AH → Prop) (Q : Exit → T → AH → Prop) : Exit → T → AH → (fun _ => Prop) (A, Q)
  | .normal, t, H => A t H
  | e, t, H => Q e t H

def blockQ (id : Nat) (Q : Exit → T → AH → Prop) : Exit → T → AH → (fun _ => Prop) Q
  | .exit i, t, H => if i = id then Q .normal t H else Q (.exit i) t H
  | e, t, H => Q e t H

def awp (P : Program) : (c : Code) → (Q : Exit → T → AH → Prop) → T → AH → (fun _ => Prop) (c, Q)
  | .skip, Q, t, H => Q .normal t H
  | .region _ ops false, Q, t, H => awpOps P ops.toList (Q .normal) ops.toList t H
  | .region id ops true, Q, t, H => Sem P (.region id ops true) (seqQ (Q .normal) fun _ _ _ => False) t H
  | .seq a b, Q, t, H => awp P a (seqQ (awp P b Q) Q) t H
  | .cond c a b, Q, t, H => condC (evo t c) (awp P a Q t H) (awp P b Q t H)
  | .block id c, Q, t, H => awp P c (blockQ id Q) t H
  | .loop c, Q, t, H => ∃ I : Nat → T → AH → Prop, (∃ n, I n t H) ∧ ∀ n t' H', I n t' H' → awp P c (seqQ (fun t'' H'' => ∃ m, m < n ∧ I m t'' H'') Q) t' H'
  | .exit id, Q, t, H => Q (.exit id) t H
  | .ret, Q, t, H => Q .ret t H
  | _, _, _, _ => False

def res1 (P : Program) (t : T) (H : AH) : ResultVar → Option Value
  | .tmp i => some (t i)
  | .cell a ty => (ti P ty).bind fun I => match t a with
    | .pointer (some ⟨i, o, none⟩) => (H.row i).bind fun r => if I.d.isAgg = true then (if o + I.size ≤ r.cells.length ∧ r.rw = true then some (.agg (seg r.cells o I.size).toArray) else none) else (if r.rw = true then r.cells[o]? else none)
    | _ => none

def resL (P : Program) (t : T) (H : AH) : List ResultVar → Option (List Value)
  | [] => some []
  | r :: rs => (res1 P t H r).bind fun v => (resL P t H rs).bind fun vs => some (v :: vs)

def pack : List Value → Value
  | [] => .tuple #[]
  | [v] => v
  | u :: v :: vs => .tuple (u :: v :: vs).toArray

def resV (P : Program) (rs : List ResultVar) (t : T) (H : AH) : Option Value :=
  (resL P t H rs).bind fun vs => some (pack vs)

def retQ (P : Program) (rs : List ResultVar) (R : Value → AH → Prop) : Exit → T → AH → (fun _ => Prop) (rs, R)
  | .ret, t, H => ∃ v, resV P rs t H = some v ∧ R v H
  | .normal, t, H => ∃ v, resV P rs t H = some v ∧ R v H
  | _, _, _ => False

def init (args : List Value) : T := fun i => args.getD i undef

/-! ### How simp goes through it: only what comes next is looked at -/
@[congr] theorem bindO_congr {α : Type} {x y : Option α} {f : α → Out} (h : x = y) : bindO x f = bindO y f := by rw [h]
@[congr] theorem asI_congr {v u : Value} {f : IntKind → Int → Out} (h : v = u) : asI v f = asI u f := by rw [h]
@[congr] theorem asB_congr {v u : Value} {f : Bool → Out} (h : v = u) : asB v f = asB u f := by rw [h]
@[congr] theorem asP_congr {v u : Value} {f : Nat → Nat → Out} (h : v = u) : asP v f = asP u f := by rw [h]
@[congr] theorem asSl_congr {v u : Value} {n : Out} {f : Nat → Nat → Option Nat → Nat → Nat → Out} (h : v = u) : asSl v n f = asSl u n f := by rw [h]
@[congr] theorem asAgg_congr {v u : Value} {f : List Value → Out} (h : v = u) : asAgg v f = asAgg u f := by rw [h]
@[congr] theorem asTup_congr {v u : Value} {f : List Value → Out} (h : v = u) : asTup v f = asTup u f := by rw [h]
@[congr] theorem asStr_congr {v u : Value} {f : ByteArray → Out} (h : v = u) : asStr v f = asStr u f := by rw [h]
@[congr] theorem asFn_congr {v u : Value} {f : FuncId → List Value → Out} (h : v = u) : asFn v f = asFn u f := by rw [h]
@[congr] theorem asCells_congr {v u : Value} {f : List Value → Out} (h : v = u) : asCells v f = asCells u f := by rw [h]
@[congr] theorem slT_congr {d u : TD} {f : TypeId → Out} (h : d = u) : slT d f = slT u f := by rw [h]
@[congr] theorem stT_congr {d u : TD} {f : List (Nat × TypeId) → Out} (h : d = u) : stT d f = stT u f := by rw [h]
@[congr] theorem oI_congr {t t' : T} {x y : Option Operand} {f : Option Int → Out} (h : t = t') (hx : x = y) : oI t x f = oI t' y f := by rw [h, hx]
@[congr] theorem runOut_congr {P : Program} {H : AH} {o u : Out} {K : Value → AH → Prop} (h : o = u) : runOut P H o K = runOut P H u K := by rw [h]
@[congr] theorem condW_congr {v u : Value} {b : Bool} {A B : Prop} (h : v = u) : condW v b A B = condW u b A B := by rw [h]
@[congr] theorem condC_congr {v u : Option Value} {A B : Prop} (h : v = u) : condC v A B = condC u A B := by rw [h]
@[congr] theorem awpOps_congr {P : Program} {all os : List Oper} {Q : T → AH → Prop} {t t' : T} {H H' : AH} (h : t = t') (k : H = H') : awpOps P all Q os t H = awpOps P all Q os t' H' := by rw [h, k]
@[congr] theorem awp_congr {P : Program} {c : Code} {Q : Exit → T → AH → Prop} {t t' : T} {H H' : AH} (h : t = t') (k : H = H') : awp P c Q t H = awp P c Q t' H' := by rw [h, k]
@[congr] theorem ACalls_congr {P : Program} {f : FuncId} {a b : List Value} {H H' : AH} {R : Value → AH → Prop} (h : a = b) (k : H = H') : ACalls P f a H R = ACalls P f b H' R := by rw [h, k]
@[congr] theorem seqQ_congr {A : T → AH → Prop} {Q : Exit → T → AH → Prop} {e e' : Exit} {t t' : T} {H H' : AH} (h0 : e = e') (h : t = t') (k : H = H') : seqQ A Q e t H = seqQ A Q e' t' H' := by rw [h0, h, k]
@[congr] theorem blockQ_congr {id : Nat} {Q : Exit → T → AH → Prop} {e e' : Exit} {t t' : T} {H H' : AH} (h0 : e = e') (h : t = t') (k : H = H') : blockQ id Q e t H = blockQ id Q e' t' H' := by rw [h0, h, k]
@[congr] theorem retQ_congr {P : Program} {rs : List ResultVar} {R : Value → AH → Prop} {e e' : Exit} {t t' : T} {H H' : AH} (h0 : e = e') (h : t = t') (k : H = H') : retQ P rs R e t H = retQ P rs R e' t' H' := by rw [h0, h, k]

theorem bindO_some {α : Type} (a : α) (f : α → Out) : bindO (some a) f = f a := (rfl)
theorem asI_int (k : IntKind) (n : Int) (f : IntKind → Int → Out) : asI (.int k n) f = f k n := (rfl)
theorem asB_bool (b : Bool) (f : Bool → Out) : asB (.bool b) f = f b := (rfl)
theorem asP_ptr (i o : Nat) (f : Nat → Nat → Out) : asP (.pointer (some ⟨i, o, none⟩)) f = f i o := (rfl)
theorem asSl_nil (n c : Nat) (n0 : Out) (f : Nat → Nat → Option Nat → Nat → Nat → Out) : asSl (.slice none n c) n0 f = n0 := (rfl)
theorem asSl_some (i o : Nat) (s : Option Nat) (n c : Nat) (n0 : Out) (f : Nat → Nat → Option Nat → Nat → Nat → Out) : asSl (.slice (some ⟨i, o, s⟩) n c) n0 f = f i o s n c := (rfl)
theorem asAgg_agg (cs : Array Value) (f : List Value → Out) : asAgg (.agg cs) f = f cs.toList := (rfl)
theorem asTup_tup (cs : Array Value) (f : List Value → Out) : asTup (.tuple cs) f = f cs.toList := (rfl)
theorem asStr_str (s : ByteArray) (f : ByteArray → Out) : asStr (.string s) f = f s := (rfl)
theorem asFn_fn (g : FuncId) (cap : Array Value) (f : FuncId → List Value → Out) : asFn (.func (.func g) #[] cap) f = f g cap.toList := (rfl)
theorem asCells_agg (cs : Array Value) (f : List Value → Out) : asCells (.agg cs) f = f cs.toList := (rfl)
theorem asCells_int (k : IntKind) (n : Int) (f : List Value → Out) : asCells (.int k n) f = f [.int k n] := (rfl)
theorem asCells_bool (b : Bool) (f : List Value → Out) : asCells (.bool b) f = f [.bool b] := (rfl)
theorem asCells_slice (a : Option Addr) (n c : Nat) (f : List Value → Out) : asCells (.slice a n c) f = f [.slice a n c] := (rfl)
theorem asCells_str (s : ByteArray) (f : List Value → Out) : asCells (.string s) f = f [.string s] := (rfl)
theorem asCells_fn (g : Fn) (x y : Array Value) (f : List Value → Out) : asCells (.func g x y) f = f [.func g x y] := (rfl)
theorem asCells_ptr (a : Option Addr) (f : List Value → Out) : asCells (.pointer a) f = f [.pointer a] := (rfl)
theorem slT_sl (e : TypeId) (f : TypeId → Out) : slT (.slice e) f = f e := (rfl)
theorem stT_st (fs : List (Nat × TypeId)) (f : List (Nat × TypeId) → Out) : stT (.struct fs) f = f fs := (rfl)
theorem oI_none (t : T) (f : Option Int → Out) : oI t none f = f none := (rfl)
theorem oI_some (t : T) (x : Operand) (f : Option Int → Out) : oI t (some x) f = bindO (evo t x) fun v => asI v fun _ n => f (some n) := (rfl)
theorem runOut_val (P : Program) (H : AH) (v : Value) (H' : AH) (K : Value → AH → Prop) : runOut P H (.val v H') K = K v H' := (rfl)
theorem runOut_unit (P : Program) (H : AH) (H' : AH) (K : Value → AH → Prop) : runOut P H (.unit H') K = K undef H' := (rfl)
theorem runOut_call (P : Program) (H : AH) (f : FuncId) (a : List Value) (K : Value → AH → Prop) : runOut P H (.call f a) K = ACalls P f a H K := (rfl)
theorem runOut_need (P : Program) (H : AH) (p : Prop) (o : Out) (K : Value → AH → Prop) : runOut P H (.need p o) K = (p ∧ runOut P H o K) := (rfl)
theorem condW_bool (b want : Bool) (A B : Prop) : condW (.bool b) want A B = if b = want then A else B := (rfl)
theorem condW_undef (want : Bool) (A B : Prop) : condW undef want A B = B := (rfl)
theorem condC_bool (b : Bool) (A B : Prop) : condC (some (.bool b)) A B = if b = true then A else B := (rfl)
theorem awpOps_nil (P : Program) (all : List Oper) (Q : T → AH → Prop) (t : T) (H : AH) : awpOps P all Q [] t H = Q t H := (rfl)
theorem awpOps_cons (P : Program) (all : List Oper) (Q : T → AH → Prop) (d : Option Tmp) (op : Op) (ty : TypeId) (pos : String) (af : Array Edge) (os : List Oper) (t : T) (H : AH) :
    awpOps P all Q (⟨d, op, ty, pos, af, none⟩ :: os) t H = runOut P H (evalOp P t H op) fun v H' => awpOps P all Q os (updO t d v) H' := (rfl)
theorem awpOps_guard (P : Program) (all : List Oper) (Q : T → AH → Prop) (d : Option Tmp) (op : Op) (ty : TypeId) (pos : String) (af : Array Edge) (j : Nat) (w : Bool) (os : List Oper) (t : T) (H : AH) :
    awpOps P all Q (⟨d, op, ty, pos, af, some (j, w)⟩ :: os) t H =
      condW (gv all t j) w (runOut P H (evalOp P t H op) fun v H' => awpOps P all Q os (updO t d v) H') (awpOps P all Q os (updO t d undef) H) := (rfl)
theorem upd_apply (t : T) (i : Nat) (v : Value) (j : Nat) : upd t i v j = if j = i then v else t j := (rfl)
theorem updO_some (t : T) (i : Nat) (v : Value) : updO t (some i) v = upd t i v := (rfl)
theorem updO_none (t : T) (v : Value) : updO t none v = t := (rfl)
theorem awp_skip (P : Program) (Q : Exit → T → AH → Prop) (t : T) (H : AH) : awp P .skip Q t H = Q .normal t H := (rfl)
theorem awp_ret (P : Program) (Q : Exit → T → AH → Prop) (t : T) (H : AH) : awp P .ret Q t H = Q .ret t H := (rfl)
theorem awp_exit (P : Program) (Q : Exit → T → AH → Prop) (t : T) (H : AH) (id : Nat) : awp P (.exit id) Q t H = Q (.exit id) t H := (rfl)
theorem awp_seq (P : Program) (Q : Exit → T → AH → Prop) (t : T) (H : AH) (a b : Code) : awp P (.seq a b) Q t H = awp P a (seqQ (awp P b Q) Q) t H := (rfl)
theorem awp_cond (P : Program) (Q : Exit → T → AH → Prop) (t : T) (H : AH) (c : Operand) (a b : Code) : awp P (.cond c a b) Q t H = condC (evo t c) (awp P a Q t H) (awp P b Q t H) := (rfl)
theorem awp_block (P : Program) (Q : Exit → T → AH → Prop) (t : T) (H : AH) (id : Nat) (c : Code) : awp P (.block id c) Q t H = awp P c (blockQ id Q) t H := (rfl)
theorem awp_region (P : Program) (Q : Exit → T → AH → Prop) (t : T) (H : AH) (id : Nat) (ops : List Oper) : awp P (.region id ops.toArray false) Q t H = awpOps P ops (Q .normal) ops t H := (rfl)
theorem pack_0 : pack [] = .tuple #[] := (rfl)
theorem pack_1 (v : Value) : pack [v] = v := (rfl)
theorem pack_2 (u v : Value) (vs : List Value) : pack (u :: v :: vs) = .tuple (u :: v :: vs).toArray := (rfl)
theorem res1_tmp (P : Program) (t : T) (H : AH) (i : Nat) : res1 P t H (.tmp i) = some (t i) := (rfl)
theorem resL_nil (P : Program) (t : T) (H : AH) : resL P t H [] = some [] := (rfl)
theorem resL_cons (P : Program) (t : T) (H : AH) (r : ResultVar) (rs : List ResultVar) : resL P t H (r :: rs) = (res1 P t H r).bind fun v => (resL P t H rs).bind fun vs => some (v :: vs) := (rfl)
theorem evo_tmp (t : T) (i : Nat) : evo t (.tmp i) = some (t i) := (rfl)
theorem evo_func (t : T) (f : FuncId) : evo t (.func f) = some (.func (.func f) #[] #[]) := (rfl)
theorem evo_int (t : T) (k : IntKind) (n : Int) : evo t (.const (.int k n)) = some (.int k n) := (rfl)
theorem evo_bool (t : T) (b : Bool) : evo t (.const (.bool b)) = some (.bool b) := (rfl)
theorem evo_str (t : T) (s : ByteArray) : evo t (.const (.string s)) = some (.string s) := (rfl)
theorem evo_nil (t : T) : evo t (.const (.slice none 0 0)) = some (.slice none 0 0) := (rfl)
theorem evs_nil (t : T) : evs t [] = some [] := (rfl)
theorem evs_cons (t : T) (x : Operand) (xs : List Operand) : evs t (x :: xs) = (evo t x).bind fun v => (evs t xs).bind fun vs => some (v :: vs) := (rfl)
theorem evp_nil (t : T) : evp t [] = some [] := (rfl)
theorem evp_cons (t : T) (i : Nat) (x : Operand) (xs : List (Nat × Operand)) : evp t ((i, x) :: xs) = (evo t x).bind fun v => (evp t xs).bind fun vs => some ((i, v) :: vs) := (rfl)
end Go.Abs
