/- The abstract machine: a deterministic interpreter of the model's code over abstract values. Definitions alone. -/
import Derived.Calls
import Derived.Orders
import Derived.Laws.AppendOwn
import Derived.Laws.BytesArg
import Derived.KernelRfl
set_option linter.all false
set_option linter.deprecated false
namespace Go.Am

/-- Abstract values. v: a value without an address; sl: a slice whose elements are never written again, by the cells of an element and its elements' cells; e0: a slice of length and capacity 0; fp: a pointer into memory that is never written again, by the cells from there on; os: a slice of an owned block (name, epoch, first element, length); op: a pointer into an owned block (name, epoch, element, cell); yl: the yield of a loop over a function. -/
inductive AV where
  | v (x : Value)
  | sl (sz : Nat) (es : List (List AV))
  | e0
  | fp (cs : List AV)
  | os (n e off len : Nat)
  | op (n e i j : Nat)
  | agg (cs : List AV)
  | tup (vs : List AV)
  | fn (f : FuncId) (caps : List AV)
  | yl (k : Nat)
  | dead
  deriving Inhabited

/-- How a piece of code is left. -/
inductive AX where
  | normal
  | exit (id : Nat)
  | ret
  deriving DecidableEq
def AX.code : AX → Code
  | .normal => .skip
  | .exit id => .exit id
  | .ret => .ret
/-- A loop over a function: under way; in a round; left by a jump; over. -/
inductive LS where
  | on
  | busy
  | jump (x : AX)
  | off
  deriving DecidableEq

structure Blk where
  elem : TypeId
  sz : Nat
  ep : Nat
  es : List (List AV)
  it : Option (ByteArray × Nat) := none

structure AHeap where
  l : List (Nat × Blk)
  next : Nat
  js : List LS := []

def look : List (Nat × Blk) → Nat → Option Blk
  | [], _ => none
  | (k, b) :: r, n => if k = n then some b else look r n
def putB : List (Nat × Blk) → Nat → Blk → List (Nat × Blk)
  | [], n, b => [(n, b)]
  | (k, c) :: r, n, b => if k = n then (k, b) :: r else (k, c) :: putB r n b
def AHeap.get (H : AHeap) (n : Nat) : Option Blk := look H.l n
def AHeap.set (H : AHeap) (n : Nat) (b : Blk) : AHeap := { H with l := putB H.l n b }
def AHeap.push (H : AHeap) (b : Blk) : AHeap := { H with l := (H.next, b) :: H.l, next := H.next + 1 }
def AHeap.empty : AHeap := ⟨[], 0, []⟩

def plain : Value → Bool
  | .bool _ | .int _ _ | .float _ _ | .complex _ _ _ | .string _ => true
  | .pointer a => a.isNone
  | .slice a n c => a.isNone && n == 0 && c == 0
  | .map r => r.isNone
  | .chan r => r.isNone
  | .nilFunc | .nilIface => true
  | _ => false

def ofCell (x : Value) : AV :=
  match x with
  | .func (.func f) first caps => if first.size = 0 ∧ caps.size = 0 then .fn f [] else .dead
  | x => if plain x then .v x else .dead
def ofVal (x : Value) : AV :=
  match x with
  | .agg cs => if cs.toList.all (·.oneCell') then .agg (cs.toList.map ofCell) else .dead
  | x => ofCell x

/-! The slots of a frame, in rows of eight. -/
/-- By the recursors themselves: fewer steps for the kernel. -/
noncomputable def getR {α : Type} (d : α) (l : List α) (n : Nat) : α := List.rec (motive := fun _ => Nat → α) (fun _ => d) (fun h _ ih n => Nat.rec h (fun m _ => ih m) n) l n
noncomputable def setR {α R : Type} (x : α) (l : List α) (n : Nat) (k : List α → Option R) : Option R :=
  List.rec (motive := fun _ => Nat → (List α → Option R) → Option R) (fun _ _ => none) (fun h t ih n k => Nat.rec (k (x :: t)) (fun m _ => ih m fun t => k (h :: t)) n) l n k
structure Slots where
  n : Nat
  c : List (List AV)
noncomputable def Slots.get (s : Slots) (t : Nat) : AV := getR (.tup []) (getR [] s.c (t / 8)) (t % 8)
noncomputable def Slots.set {R : Type} (s : Slots) (t : Nat) (x : AV) (k : Slots → Option R) : Option R :=
  match s with
  | ⟨n, c⟩ => match Nat.blt t n with
    | true => setR x (getR [] c (t / 8)) (t % 8) fun row => setR row c (t / 8) fun c => k ⟨n, c⟩
    | false => k ⟨n, c⟩
def row8 {R : Type} (l : List AV) (k : List AV → List AV → R) : R :=
  let u : AV := .tup []
  match l with
  | [] => k [u, u, u, u, u, u, u, u] []
  | [a] => k [a, u, u, u, u, u, u, u] []
  | [a, b] => k [a, b, u, u, u, u, u, u] []
  | [a, b, c] => k [a, b, c, u, u, u, u, u] []
  | [a, b, c, d] => k [a, b, c, d, u, u, u, u] []
  | [a, b, c, d, e] => k [a, b, c, d, e, u, u, u] []
  | [a, b, c, d, e, f] => k [a, b, c, d, e, f, u, u] []
  | [a, b, c, d, e, f, g] => k [a, b, c, d, e, f, g, u] []
  | a :: b :: c :: d :: e :: f :: g :: h :: r => k [a, b, c, d, e, f, g, h] r
def rows8 {R : Type} : Nat → List AV → (List (List AV) → R) → R
  | 0, _, k => k []
  | m + 1, l, k => row8 l fun row l => rows8 m l fun c => k (row :: c)
def Slots.mk' {R : Type} (n : Nat) (args : List AV) (k : Slots → R) : R := rows8 ((n + 7) / 8) args fun c => k ⟨n, c⟩

noncomputable def aev (tm : Slots) : Operand → AV
  | .tmp t => tm.get t
  | .const x => ofVal x
  | .global _ => .dead
  | .func f => .fn f []

/-- What a computation gives that neither looks at the world nor turns it. -/
def det {α : Type} (P : Program) : Sem α → Option α
  | .pure a => some a
  | .program k => det P (k P)
  | .mark _ k => det P k
  | _ => none

/-- The cells of a value that is stored or boxed. -/
def cellsOf : AV → Option (List AV)
  | .agg cs => some cs
  | .tup _ | .dead => none
  | x => some [x]

inductive Eff where
  | none (x : AV)
  | set (n : Nat) (b : Blk) (x : AV)
  | new (b : Blk) (x : Nat → AV)

inductive Plan where
  | prim (rd : List Nat) (k : List Blk → Option Eff)
  | call (f : FuncId) (args : List AV)
  | yield (k : Nat) (args : List AV)
  | bad

/-- The kind of a cell that is compared. -/
inductive EK where
  | i | b | s
  deriving DecidableEq

inductive Mode where
  | pure | own | eff
  deriving DecidableEq

structure Env where
  P : Program
  pol : FuncId → Mode
  eqT : TypeId → Option (List EK)   -- structs whose '==' is told: their cells' kinds

def Plan.val (x : AV) : Plan := .prim [] fun _ => some (.none x)
def Plan.opt (x : Option AV) : Plan := .prim [] fun _ => x.map .none
def plainV (x : Option Value) : Option AV := x.bind fun v => if plain v then some (.v v) else none

/-- The elements of a slice, handed on. -/
def sliceElems (b : Blk) (e off len : Nat) : Option (List (List AV)) :=
  if b.ep = e ∧ off + len ≤ b.es.length ∧ b.it.isNone then some ((b.es.drop off).take len) else none
def srd (x : AV) (k : Nat → List (List AV) → Option Eff) : Plan :=
  match x with
  | .sl sz es => .prim [] fun _ => k sz es
  | .e0 | .v (.slice none 0 0) => .prim [] fun _ => k 0 []
  | .os n e off len => .prim [n] fun
    | [b] => (sliceElems b e off len).bind (k b.sz)
    | _ => none
  | _ => .bad

def isStrT (P : Program) (t : TypeId) : Bool := match P.underlying t with | some .string => true | _ => false
def isSlT (P : Program) (t : TypeId) : Bool := match P.underlying t with | some (.slice _) => true | _ => false
def isU8T (P : Program) (t : TypeId) : Bool := match P.underlying t with | some (.int .u8) => true | _ => false
theorem isStrT_ok {P : Program} {t : TypeId} (h : isStrT P t = true) : P.underlying t = some .string := by
  unfold isStrT at h
  split at h
  · assumption
  · cases h
theorem isSlT_ok {P : Program} {t : TypeId} (h : isSlT P t = true) : ∃ e, P.underlying t = some (.slice e) := by
  unfold isSlT at h
  split at h
  · exact ⟨_, by assumption⟩
  · cases h
theorem isU8T_ok {P : Program} {t : TypeId} (h : isU8T P t = true) : P.underlying t = some (.int .u8) := by
  unfold isU8T at h
  split at h
  · assumption
  · cases h
def isAggT (P : Program) (t : TypeId) : Option Bool := (P.underlying t).map fun | .struct _ => true | .array _ _ => true | _ => false
def infoSize (P : Program) (t : TypeId) : Option Nat := (P.info? t).map (·.size)
def infoBytes (P : Program) (t : TypeId) : Option Nat := (P.info? t).map (·.bytes)
def zeroCells (P : Program) (t : TypeId) : Option (List AV) :=
  ((P.info? t).bind (·.zero)).bind fun z => if z.cells.toList.all plain then some (z.cells.toList.map .v) else none

/-- The part of some cells that a variable of a type takes. -/
def partA (P : Program) (t : TypeId) (cs : List AV) : Option AV := do
  let s ← infoSize P t
  if ← isAggT P t then (if s ≤ cs.length then some (.agg (cs.take s)) else none) else cs.head?

def setCells (el : List AV) (j : Nat) (cs : List AV) : List AV := el.take j ++ cs ++ el.drop (j + cs.length)

def fillA (place : Nat → Option (Nat × Nat)) (cells : List AV) : List (Nat × AV) → Option (List AV)
  | [] => some cells
  | (i, x) :: rest => do
    let (off, size) ← place i
    let cs ← cellsOf x
    if cs.length = size ∧ off + size ≤ cells.length then fillA place (setCells cells off cs) rest else none
def fillE (size : Nat) (es : List (List AV)) : List (Nat × AV) → Option (List (List AV))
  | [] => some es
  | (i, x) :: rest => do
    let cs ← cellsOf x
    if cs.length = size ∧ i < es.length then fillE size (es.set i cs) rest else none

def placesA (P : Program) : List Field → Option (List (Nat × Nat))
  | [] => some []
  | f :: r => do
    let s ← infoSize P f.type
    let ps ← placesA P r
    some ((f.offset, s) :: ps)

def fieldAt? (P : Program) (s : TypeId) (f : Nat) : Option (Nat × TypeId) :=
  match P.underlying s with
  | some (.struct fs) => (fs[f]?).map fun f => (f.offset, f.type)
  | _ => none

def eqCell : EK → AV → AV → Option Bool
  | .i, .v (.int k a), .v (.int k' b) => if k = k' then some (a == b) else none
  | .b, .v (.bool a), .v (.bool b) => some (a == b)
  | .s, .v (.string a), .v (.string b) => some (a == b)
  | _, _, _ => none
def eqCells : List EK → List AV → List AV → Option Bool
  | [], [], [] => some true
  | k :: ks, x :: xs, y :: ys => do
    let a ← eqCell k x y
    let b ← eqCells ks xs ys
    some (a && b)
  | _, _, _ => none

/-- A value that hangs on an owned block's being there. -/
def live (n e : Nat) (x : AV) : Plan := .prim [n] fun
  | [b] => if b.ep = e then some (.none x) else none
  | _ => none
/-- '==' (neg: '!=') where a side is no plain value: two structs; a pointer, a slice, a function against nil. -/
def eqPlan (E : Env) (t : TypeId) (neg : Bool) (x y : AV) : Plan :=
  match x, y with
  | .agg xs, .agg ys => match E.eqT t with
    | some ks => .opt ((eqCells ks xs ys).map fun b => .v (.bool (b != neg)))
    | none => .bad
  | x, y => match E.P.underlying t, x, y with
    | some (.pointer _), .fp _, .v (.pointer none) => .val (.v (.bool neg))
    | some (.slice _), .sl _ _, .v (.slice none 0 0) => .val (.v (.bool neg))
    | some (.slice _), .e0, .v (.slice none 0 0) => .val (.v (.bool neg))
    | some (.func _ _ _), .fn _ _, .v .nilFunc => .val (.v (.bool neg))
    | some (.slice _), .os n e _ _, .v (.slice none 0 0) => live n e (.v (.bool neg))
    | some (.pointer _), .op n e _ _, .v (.pointer none) => live n e (.v (.bool neg))
    | _, _, _ => .bad

def binOpA (E : Env) (op : BinOp) (t : TypeId) (xo yo : Operand) (x y : AV) : Plan :=
  match x, y with
  | .v a, .v b => .opt (plainV (det E.P (do eqGuard op t xo yo a b; binOp op t a b)))
  | x, y => match op with
    | .eql => eqPlan E t false x y
    | .neq => eqPlan E t true x y
    | _ => .bad

def numsOf (k : IntKind) : List (List AV) → Option (List Int)
  | [] => some []
  | [.v (.int k' n)] :: r => if k' = k then (numsOf k r).map (n :: ·) else none
  | _ => none

def convA (E : Env) (src dst : TypeId) (x : AV) : Plan :=
  match x with
  | .v a => .opt (plainV (det E.P (convert src dst a)))
  | x => match E.P.underlying src with
    | some (.slice e) => if isStrT E.P dst && isU8T E.P e then srd x fun _ es => (numsOf .u8 es).map fun l => .none (.v (.string (strOfNums l))) else .bad
    | _ => .bad

def bound? (x : Option AV) (d : Nat) : Option Nat :=
  match x with
  | none => some d
  | some (.v (.int _ i)) => if 0 ≤ i then some i.toNat else none
  | _ => none

def sliceA (E : Env) (t : TypeId) (x : AV) (lo hi mx : Option AV) : Plan :=
  match x with
  | .v (.string s) =>
    match lo, hi, mx with
    | lo, hi, none => match bound? lo 0, bound? hi s.size with
      | some l, some h => if l ≤ h ∧ h ≤ s.size ∧ isStrT E.P t then .val (.v (.string (s.extract l h))) else .bad
      | _, _ => .bad
    | _, _, _ => .bad
  | x =>
    match E.P.underlying t with
    | some (.slice elem) =>
      match infoSize E.P elem with
      | none => .bad
      | some size =>
      match x, mx with
      | .v (.slice none 0 0), none => match bound? lo 0, bound? hi 0 with
        | some 0, some 0 => .val x
        | _, _ => .bad
      | .e0, none => match bound? lo 0, bound? hi 0 with
        | some 0, some 0 => .val x
        | _, _ => .bad
      | .sl sz es, none => match bound? lo 0, bound? hi es.length with
        | some l, some h => if l ≤ h ∧ h ≤ es.length ∧ sz = size then .val (.sl sz ((es.drop l).take (h - l))) else .bad
        | _, _ => .bad
      | .os n e off len, none => match bound? lo 0, bound? hi len with
        | some l, some h => .prim [n] fun
          | [b] => if b.ep = e ∧ b.it.isNone ∧ l ≤ h ∧ off + h ≤ b.es.length ∧ b.sz = size ∧ off + len ≤ b.es.length then some (.none (.os n e (off + l) (h - l))) else none
          | _ => none
        | _, _ => .bad
      | x, some m => match bound? lo 0, hi, bound? (some m) 0, x with
        | some 0, some (.v (.int _ 0)), some 0, .sl _ _ => .val .e0
        | some 0, some (.v (.int _ 0)), some 0, .e0 => .val .e0
        | some 0, some (.v (.int _ 0)), some 0, .v (.slice none 0 0) => .val x
        | some 0, some (.v (.int _ 0)), some 0, .os n e _ _ => live n e .e0
        | _, _, _, _ => .bad
      | _, _ => .bad
    | _ => .bad

def roomMax : Nat := 140737488355328

def appendA (E : Env) (t : TypeId) (s x : AV) : Plan :=
  match E.P.underlying t with
  | some (.slice elem) =>
    match infoBytes E.P elem, infoSize E.P elem, zeroCells E.P elem with
    | some bytes, some size, some z =>
      if size = 0 ∨ bytes = 0 ∨ z.length ≠ size then .bad else
      let fresh (s : AV) (sz : Nat) (new : List (List AV)) : Option Eff :=
        if new.isEmpty then some (.none s)
        else if new.length * bytes ≤ roomMax ∧ sz = size then some (.new { elem, sz := size, ep := 0, es := new } fun n => .os n 0 0 new.length) else none
      let onto (n e off len : Nat) (b : Blk) (sz : Nat) (new : List (List AV)) : Option Eff :=
        if b.ep = e ∧ b.it.isNone ∧ off + len ≤ b.es.length ∧ b.sz = size ∧ b.elem = elem then
          if new.isEmpty then some (.none (.os n e off len))
          else if (len + new.length) * bytes ≤ roomMax ∧ sz = size then some (.set n { b with ep := e + 1, es := (b.es.drop off).take len ++ new } (.os n (e + 1) 0 (len + new.length))) else none
        else none
      match s, x with
      | .e0, x | .v (.slice none 0 0), x => srd x (fresh s)
      | .sl sz es, .sl _ [] => .val (.sl sz es)
      | .sl sz es, .e0 => .val (.sl sz es)
      | .sl sz es, .v (.slice none 0 0) => .val (.sl sz es)
      | .os n e off len, .os m e' off' len' => .prim [n, m] fun
        | [b, c] => if n = m then none else (sliceElems c e' off' len').bind (onto n e off len b c.sz)
        | _ => none
      | .os n e off len, .sl sz new => .prim [n] fun | [b] => onto n e off len b sz new | _ => none
      | .os n e off len, .e0 => .prim [n] fun | [b] => onto n e off len b 0 [] | _ => none
      | .os n e off len, .v (.slice none 0 0) => .prim [n] fun | [b] => onto n e off len b 0 [] | _ => none
      | _, _ => .bad
    | _, _, _ => .bad
  | _ => .bad

/-- Elements written over others, from the first on. -/
def overE (es : List (List AV)) (off : Nat) (new : List (List AV)) : List (List AV) := es.take off ++ new ++ es.drop (off + new.length)

def copyA (E : Env) (t : TypeId) (d x : AV) : Plan :=
  match E.P.underlying t, d with
  | some (.slice elem), .os n e off len =>
    match infoSize E.P elem with
    | none => .bad
    | some size =>
      let go (b : Blk) (sz : Nat) (new : List (List AV)) : Option Eff :=
        let k := min new.length len
        if b.ep = e ∧ b.it.isNone ∧ off + len ≤ b.es.length ∧ b.sz = size ∧ (new.isEmpty ∨ sz = size) then some (.set n { b with es := overE b.es off (new.take k) } (.v (.int .i64 k))) else none
      match x with
      | .os m e' off' len' =>
        if n = m then .prim [n] fun | [b] => (sliceElems b e' off' len').bind (go b b.sz) | _ => none
        else .prim [n, m] fun | [b, c] => (sliceElems c e' off' len').bind (go b c.sz) | _ => none
      | .sl sz new => .prim [n] fun | [b] => go b sz new | _ => none
      | .e0 => .prim [n] fun | [b] => go b 0 [] | _ => none
      | .v (.slice none 0 0) => .prim [n] fun | [b] => go b 0 [] | _ => none
      | _ => .bad
  | _, _ => .bad

def allPlain : List AV → Option (List Value)
  | [] => some []
  | .v x :: r => (allPlain r).map (x :: ·)
  | _ => none

def builtinA (E : Env) (b : Builtin) (argTypes : Array TypeId) (type : TypeId) (args : List AV) : Plan :=
  match b, args, argTypes.toList with
  | .len, [.v (.string s)], [t] => if isStrT E.P t then .val (.v (.int .i64 s.size)) else .bad
  | .len, [x], [t] => if isSlT E.P t then srd x fun _ es => some (.none (.v (.int .i64 es.length))) else .bad
  | .cap, [.e0], [t] | .cap, [.v (.slice none 0 0)], [t] => if isSlT E.P t then .val (.v (.int .i64 0)) else .bad
  | .append, [s, x], [t, t'] => if t = t' then appendA E t s x else
      match E.P.underlying t, E.P.underlying t', x with   -- append([]byte, string...); append(s, make([]T, n)...)
      | some (.slice e), some (.int _), .v (.int _ l) => match infoSize E.P e, infoBytes E.P e, zeroCells E.P e with
        | some size, some bytes, some z => if 0 ≤ l ∧ l ≤ roomMax ∧ bytes * l ≤ roomMax ∧ z.length = size ∧ 0 < size then appendA E t s (.sl size (List.replicate l.toNat z)) else .bad
        | _, _, _ => .bad
      | some (.slice e), some .string, .v (.string str) => if isU8T E.P e then appendA E t s (.sl 1 (str.data.toList.map fun b => [.v (.int .u8 b.toNat)])) else .bad
      | _, _, _ => .bad
  | .copy, [d, x], [t, _] => copyA E t d x
  | .min, args, _ => match allPlain args with
    | some vs => .opt (plainV (det E.P (Builtin.min_ argTypes type vs.toArray)))
    | none => .bad
  | .max, args, _ => match allPlain args with
    | some vs => .opt (plainV (det E.P (Builtin.max_ argTypes type vs.toArray)))
    | none => .bad
  | _, _, _ => .bad

def plan (E : Env) (o : Oper) (ρ : Operand → AV) : Plan :=
  let P := E.P
  match o.op with
  | .move x | .assign x => .val (ρ x)
  | .pick c a b => match ρ c with
    | .v (.bool t) => .val (if t then ρ a else ρ b)
    | _ => .bad
  | .alloc t => match zeroCells P t with
    | some z => .prim [] fun _ => some (.new { elem := t, sz := z.length, ep := 0, es := [z] } fun n => .op n 0 0 0)
    | none => .bad
  | .box t x => match cellsOf (ρ x) with
    | some cs => .prim [] fun _ => some (.new { elem := t, sz := cs.length, ep := 0, es := [cs] } fun n => .op n 0 0 0)
    | none => .bad
  | .build t parts => match zeroCells P t, P.underlying t with
    | some z, some (.struct fields) => match placesA P fields.toList with
      | some ps => .opt ((fillA (fun i => ps[i]?) z (parts.toList.map fun p => (p.1, ρ p.2))).map .agg)
      | none => .bad
    | some z, some (.array _ elem) => match infoSize P elem with
      | some size => .opt ((fillA (fun i => some (i * size, size)) z (parts.toList.map fun p => (p.1, ρ p.2))).map .agg)
      | none => .bad
    | _, _ => .bad
  | .buildSlice t len parts => match P.underlying t with
    | some (.slice elem) => match infoSize P elem, zeroCells P elem with
      | some size, some z =>
        if len * size > 2 ^ 24 ∨ size = 0 ∨ z.length ≠ size then .bad else
        .prim [] fun _ => (fillE size (List.replicate len z) (parts.toList.map fun p => (p.1, ρ p.2))).map fun es => if len = 0 then .none .e0 else .new { elem, sz := size, ep := 0, es } fun n => .os n 0 0 len
      | _, _ => .bad
    | _ => .bad
  | .load t a => match ρ a with
    | .fp cs => .opt (partA P t cs)
    | .op n e i j => .prim [n] fun
      | [b] => if b.ep = e ∧ b.it.isNone ∧ i < b.es.length ∧ j ≤ b.sz then (partA P t ((b.es.getD i []).drop j)).map .none else none
      | _ => none
    | _ => .bad
  | .store t a x => match ρ a, cellsOf (ρ x), infoSize P t with
    | .op n e i j, some cs, some s => .prim [n] fun
      | [b] => if b.ep = e ∧ b.it.isNone ∧ i < b.es.length ∧ cs.length = s ∧ j + s ≤ b.sz then some (.set n { b with es := b.es.set i (setCells (b.es.getD i []) j cs) } (.tup [])) else none
      | _ => none
    | _, _, _ => .bad
  | .nilCheck x => match ρ x with
    | .fp cs => .val (.fp cs)
    | .op n e i j => live n e (.op n e i j)
    | _ => .bad
  | .binOp op t x y _ => binOpA E op t x y (ρ x) (ρ y)
  | .unOp op _ x => match ρ x with
    | .v a => .opt (plainV (det P (Op.unary op a)))
    | _ => .bad
  | .convert src dst x => convA E src dst (ρ x)
  | .makeFunc fn first caps => match fn, first.toList with
    | .func f, [] => match (caps.toList.map ρ).mapM cellsOf with
      | some _ => .val (.fn f (caps.toList.map ρ))
      | none => .bad
    | _, _ => .bad
  | .makeSlice t l c => match P.underlying t, ρ l, ρ c with
    | some (.slice elem), .v (.int _ l), .v (.int _ c) => match infoSize P elem, infoBytes P elem, zeroCells P elem with
      | some size, some bytes, some z =>
        if 0 ≤ l ∧ l ≤ c ∧ bytes * c ≤ roomMax ∧ 0 < bytes ∧ 0 < size ∧ z.length = size then
          .prim [] fun _ => some (.new { elem, sz := size, ep := 0, es := List.replicate l.toNat z } fun n => .os n 0 0 l.toNat)
        else .bad
      | _, _, _ => .bad
    | _, _, _ => .bad
  | .slice t x lo hi mx => sliceA E t (ρ x) (lo.map ρ) (hi.map ρ) (mx.map ρ)
  | .fieldAddr s x f => match fieldAt? P s f with
    | some (off, ft) => match infoSize P ft, ρ x with
      | some (_ + 1), .op n e i j => live n e (.op n e i (j + off))
      | some (_ + 1), .fp cs => .val (.fp (cs.drop off))
      | _, _ => .bad
    | none => .bad
  | .field s x f => match fieldAt? P s f, ρ x with
    | some (off, ft), .agg cs => .opt (partA P ft (cs.drop off))
    | _, _ => .bad
  | .indexAddr t x ix => match P.underlying t, ρ ix with
    | some (.slice elem), .v (.int _ i) => match infoSize P elem, ρ x with
      | some size, .sl sz es => if 0 ≤ i ∧ i < es.length ∧ sz = size then .val (.fp (es.getD i.toNat [])) else .bad
      | some size, .os n e off len => .prim [n] fun
        | [b] => if b.ep = e ∧ b.it.isNone ∧ off + len ≤ b.es.length ∧ b.sz = size ∧ 0 ≤ i ∧ i < len then some (.none (.op n e (off + i.toNat) 0)) else none
        | _ => none
      | _, _ => .bad
    | some (.array len elem), .v (.int _ i) => match infoSize P elem, ρ x with
      | some size, .fp cs => if 0 ≤ i ∧ i < len then .val (.fp (cs.drop (i.toNat * size))) else .bad
      | some size, .op n e i' j => if 0 ≤ i ∧ i < len then live n e (.op n e i' (j + i.toNat * size)) else .bad
      | _, _ => .bad
    | _, _ => .bad
  | .index t x ix => match P.underlying t, ρ x, ρ ix with
    | some .string, .v (.string s), .v (.int _ i) => if 0 ≤ i then (match s.data.toList[i.toNat]? with | some b => .val (.v (.int .u8 b.toNat)) | none => .bad) else .bad
    | some (.array len elem), .agg cs, .v (.int _ i) => match infoSize P elem with
      | some size => if 0 ≤ i ∧ i < len then .opt (partA P elem (cs.drop (i.toNat * size))) else .bad
      | none => .bad
    | _, _, _ => .bad
  | .extract t k => match ρ t with
    | .tup vs => .opt (vs[k]?)
    | _ => .bad
  | .range t x => match P.underlying t, ρ x with
    | some .string, .v (.string s) => .prim [] fun _ => some (.new { elem := 0, sz := 0, ep := 0, es := [], it := some (s, 0) } fun n => .op n 0 0 0)
    | _, _ => .bad
  | .next it true => match ρ it with
    | .op n e 0 0 => .prim [n] fun
      | [b] => match b.it with
        | some (s, pos) =>
          if b.ep = e then
            if pos < s.size then
              some (.set n { b with it := some (s, pos + (Utf8.decode s pos).2) } (.tup [.v (.bool true), .v (.int .i64 pos), .v (.int .i32 (Utf8.decode s pos).1)]))
            else some (.none (.tup [.v (.bool false)]))
          else none
        | none => none
      | _ => none
    | _ => .bad
  | .call c => match c.callee with
    | .builtin b => builtinA E b c.argTypes o.type (c.args.toList.map ρ)
    | .value f => match ρ f with
      | .fn f caps => .call f (c.args.toList.map ρ ++ caps)
      | .yl k => .yield k (c.args.toList.map ρ)
      | _ => .bad
    | _ => .bad
  | _ => .bad

/-! Strict evaluation, for the kernel: each of these is its continuation at its argument. -/
section force
variable {R : Type}
def fNat (n : Nat) (k : Nat → R) : R := match n with | 0 => k 0 | n + 1 => k (n + 1)
theorem fNat_eq (n : Nat) (k : Nat → R) : fNat n k = k n := by cases n <;> rfl
def fInt (i : Int) (k : Int → R) : R := match i with | .ofNat n => fNat n fun n => k (.ofNat n) | .negSucc n => fNat n fun n => k (.negSucc n)
theorem fInt_eq (i : Int) (k : Int → R) : fInt i k = k i := by cases i <;> simp [fInt, fNat_eq]
def fBool (b : Bool) (k : Bool → R) : R := match b with | true => k true | false => k false
theorem fBool_eq (b : Bool) (k : Bool → R) : fBool b k = k b := by cases b <;> rfl
def fL {α : Type} (f : α → (α → R) → R) : List α → (List α → R) → R
  | [], k => k []
  | x :: xs, k => f x fun x => fL f xs fun xs => k (x :: xs)
theorem fL_eq {α : Type} {f : α → (α → R) → R} (hf : ∀ x k, f x k = k x) (l : List α) (k : List α → R) : fL f l k = k l := by
  induction l generalizing k with
  | nil => rfl
  | cons x xs ih => simp [fL, hf, ih]
def fByte (b : UInt8) (k : UInt8 → R) : R := fNat b.toNat fun n => k (UInt8.ofNat n)
theorem fByte_eq (b : UInt8) (k : UInt8 → R) : fByte b k = k b := by simp [fByte, fNat_eq]
def fStr (s : ByteArray) (k : ByteArray → R) : R := fL fByte s.data.toList fun l => k ⟨⟨l⟩⟩
theorem fStr_eq (s : ByteArray) (k : ByteArray → R) : fStr s k = k s := by simp [fStr, fL_eq fByte_eq]
def fVal (v : Value) (k : Value → R) : R :=
  match v with
  | .int κ i => fInt i fun i => k (.int κ i)
  | .bool b => fBool b fun b => k (.bool b)
  | .string s => fStr s fun s => k (.string s)
  | x => k x
theorem fVal_eq (v : Value) (k : Value → R) : fVal v k = k v := by cases v <;> simp [fVal, fInt_eq, fBool_eq, fStr_eq]
/-- A cell: its head and its numbers. -/
def fCell (x : AV) (k : AV → R) : R :=
  match x with
  | .v x => fVal x fun x => k (.v x)
  | .os n e off len => fNat n fun n => fNat e fun e => fNat off fun off => fNat len fun len => k (.os n e off len)
  | .op n e i j => fNat n fun n => fNat e fun e => fNat i fun i => fNat j fun j => k (.op n e i j)
  | x => k x
theorem fCell_eq (x : AV) (k : AV → R) : fCell x k = k x := by cases x <;> simp [fCell, fVal_eq, fNat_eq]
def fHead {α : Type} (l : List α) (k : List α → R) : R := match l with | [] => k [] | h :: t => k (h :: t)
theorem fHead_eq {α : Type} (l : List α) (k : List α → R) : fHead l k = k l := by cases l <;> rfl
/-- A value: its head, its numbers, its rows. -/
def fA (x : AV) (k : AV → R) : R :=
  match x with
  | .sl sz es => fNat sz fun sz => fL fHead es fun es => k (.sl sz es)
  | .fp cs => fL fCell cs fun cs => k (.fp cs)
  | .agg cs => fL fCell cs fun cs => k (.agg cs)
  | .tup cs => fL fCell cs fun cs => k (.tup cs)
  | .fn f cs => fNat f fun f => fL fCell cs fun cs => k (.fn f cs)
  | x => fCell x k
theorem fA_eq (x : AV) (k : AV → R) : fA x k = k x := by cases x <;> simp [fA, fL_eq fCell_eq, fL_eq (fHead_eq (α := AV)), fNat_eq, fCell_eq]
/-- A value that was forced before: its head. -/
def fH (x : AV) (k : AV → R) : R := match x with
  | .v x => k (.v x) | .sl a b => k (.sl a b) | .e0 => k .e0 | .fp a => k (.fp a) | .os a b c d => k (.os a b c d) | .op a b c d => k (.op a b c d)
  | .agg a => k (.agg a) | .tup a => k (.tup a) | .fn a b => k (.fn a b) | .yl a => k (.yl a) | .dead => k .dead
theorem fH_eq (x : AV) (k : AV → R) : fH x k = k x := by cases x <;> rfl
def fBlk (b : Blk) (k : Blk → R) : R :=
  match b with
  | ⟨t, sz, ep, es, it⟩ => fNat t fun t => fNat sz fun sz => fNat ep fun ep => fL (fL fCell) es fun es =>
    match it with
    | none => k ⟨t, sz, ep, es, none⟩
    | some (s, pos) => fNat pos fun pos => k ⟨t, sz, ep, es, some (s, pos)⟩
theorem fBlk_eq (b : Blk) (k : Blk → R) : fBlk b k = k b := by
  obtain ⟨t, sz, ep, es, it⟩ := b
  have e : ∀ (l : List AV) (k : List AV → R), fL fCell l k = k l := fL_eq fCell_eq
  rcases it with _ | ⟨s, pos⟩ <;> simp [fBlk, fNat_eq, fL_eq e]
def fPut : List (Nat × Blk) → Nat → Blk → (List (Nat × Blk) → R) → R
  | [], n, b, k => k [(n, b)]
  | (m, c) :: r, n, b, k => if m = n then k ((m, b) :: r) else fPut r n b fun r => k ((m, c) :: r)
theorem fPut_eq (l : List (Nat × Blk)) (n : Nat) (b : Blk) (k : List (Nat × Blk) → R) : fPut l n b k = k (putB l n b) := by
  induction l generalizing k with
  | nil => rfl
  | cons x r ih => obtain ⟨m, c⟩ := x; simp only [fPut, putB]; split <;> simp [ih]
end force

def getAll (H : AHeap) : List Nat → Option (List Blk)
  | [] => some []
  | n :: r => match H.get n with
    | none => none
    | some b => match getAll H r with
      | none => none
      | some bs => some (b :: bs)
theorem getAll_eq (H : AHeap) (l : List Nat) : getAll H l = l.mapM H.get := by
  induction l with
  | nil => rfl
  | cons n r ih => simp only [getAll, List.mapM_cons, ih]; cases H.get n <;> cases List.mapM H.get r <;> rfl

/-- Frozen: what lies in owned blocks is told by content. bad: the names that may not be told. -/
def frz (H : AHeap) (bad : Nat → Bool) : Nat → AV → AV
  | 0, _ => .dead
  | d + 1, x => match x with
    | .v x => .v x
    | .sl sz es => .sl sz es
    | .e0 => .e0
    | .fp cs => .fp cs
    | .os n e off len => if bad n then .dead else match H.get n with
      | some b => if b.ep = e ∧ b.it.isNone ∧ off + len ≤ b.es.length ∧ 0 < b.sz then .sl b.sz (((b.es.drop off).take len).map fun c => c.map (frz H bad d)) else .dead
      | none => .dead
    | .op n e i j => if bad n then .dead else match H.get n with
      | some b => if b.ep = e ∧ b.it.isNone ∧ i < b.es.length ∧ j < b.sz then .fp (((b.es.getD i []).drop j).map (frz H bad d)) else .dead
      | none => .dead
    | .agg cs => .agg (cs.map (frz H bad d))
    | .tup cs => .tup (cs.map (frz H bad d))
    | .fn f caps => .fn f (caps.map (frz H bad d))
    | .yl _ => .dead
    | .dead => .dead
def fM {R α : Type} (g : α → (α → R) → R) : List α → (List α → R) → R := fL g
theorem fL_map {R α : Type} {f : α → (α → R) → R} {g : α → α} (hf : ∀ x k, f x k = k (g x)) (l : List α) (k : List α → R) : fL f l k = k (l.map g) := by
  induction l generalizing k with
  | nil => rfl
  | cons x xs ih => simp [fL, hf, ih]
/-- The same, strictly. -/
def frzS {R : Type} (H : AHeap) (bad : Nat → Bool) : Nat → AV → (AV → R) → R
  | 0, _, k => k .dead
  | d + 1, x, k => match x with
    | .v x => k (.v x)
    | .sl sz es => k (.sl sz es)
    | .e0 => k .e0
    | .fp cs => k (.fp cs)
    | .os n e off len => if bad n then k .dead else match H.get n with
      | some b => if b.ep = e ∧ b.it.isNone ∧ off + len ≤ b.es.length ∧ 0 < b.sz then fL (fL (frzS H bad d)) ((b.es.drop off).take len) fun es => k (.sl b.sz es) else k .dead
      | none => k .dead
    | .op n e i j => if bad n then k .dead else match H.get n with
      | some b => if b.ep = e ∧ b.it.isNone ∧ i < b.es.length ∧ j < b.sz then fL (frzS H bad d) ((b.es.getD i []).drop j) fun cs => k (.fp cs) else k .dead
      | none => k .dead
    | .agg cs => fL (frzS H bad d) cs fun cs => k (.agg cs)
    | .tup cs => fL (frzS H bad d) cs fun cs => k (.tup cs)
    | .fn f cs => fL (frzS H bad d) cs fun cs => k (.fn f cs)
    | .yl _ => k .dead
    | .dead => k .dead
theorem frzS_eq {R : Type} (H : AHeap) (bad : Nat → Bool) (d : Nat) (x : AV) (k : AV → R) : frzS H bad d x k = k (frz H bad d x) := by
  induction d generalizing x R with
  | zero => rfl
  | succ d ih =>
    have e : ∀ {R : Type} (l : List AV) (k : List AV → R), fL (frzS H bad d) l k = k (l.map (frz H bad d)) := fun l k => fL_map ih l k
    cases x <;> simp only [frzS, frz, e] <;> (repeat' split) <;> first | rfl | simp_all [fL_map e]
def frzDepth : Nat := 12

def idxN : List Nat → Nat → Nat → Option Nat
  | [], _, _ => none
  | m :: r, n, i => if m = n then some i else idxN r n (i + 1)
def badN (lo : Nat) (T : List Nat) (n : Nat) : Bool := Nat.blt n lo || T.any (Nat.beq n)
/-- What goes back to the caller: names below lo are the caller's own and stay; the blocks of T go over, under names from base on; the rest is frozen. -/
def renC (H : AHeap) (lo base : Nat) (T : List Nat) (d : Nat) (x : AV) : AV :=
  match x with
  | .os n e off len => if n < lo then .os n e off len else match idxN T n 0 with
    | some k => match H.get n with
      | some b => if b.ep = e then .os (base + k) 0 off len else .dead
      | none => .dead
    | none => frz H (badN lo T) d (.os n e off len)
  | .op n e i j => if n < lo then .op n e i j else match idxN T n 0 with
    | some k => match H.get n with
      | some b => if b.ep = e then .op (base + k) 0 i j else .dead
      | none => .dead
    | none => frz H (badN lo T) d (.op n e i j)
  | x => frz H (badN lo T) d x
def renS {R : Type} (H : AHeap) (lo base : Nat) (T : List Nat) (d : Nat) (x : AV) (k : AV → R) : R :=
  match x with
  | .os n e off len => if n < lo then k (.os n e off len) else match idxN T n 0 with
    | some m => match H.get n with
      | some b => if b.ep = e then fNat (base + m) fun m => k (.os m 0 off len) else k .dead
      | none => k .dead
    | none => frzS H (badN lo T) d (.os n e off len) k
  | .op n e i j => if n < lo then k (.op n e i j) else match idxN T n 0 with
    | some m => match H.get n with
      | some b => if b.ep = e then fNat (base + m) fun m => k (.op m 0 i j) else k .dead
      | none => k .dead
    | none => frzS H (badN lo T) d (.op n e i j) k
  | x => frzS H (badN lo T) d x k
theorem renS_eq {R : Type} (H : AHeap) (lo base : Nat) (T : List Nat) (d : Nat) (x : AV) (k : AV → R) : renS H lo base T d x k = k (renC H lo base T d x) := by
  cases x <;> simp only [renS, renC, frzS_eq, fNat_eq] <;> (repeat' split) <;> first | rfl | simp_all
def ren1 (H : AHeap) (lo base : Nat) (T : List Nat) (d : Nat) (x : AV) : AV :=
  match x with
  | .agg cs => .agg (cs.map (renC H lo base T d))
  | .fn f cs => .fn f (cs.map (renC H lo base T d))
  | x => renC H lo base T d x
def ren1S {R : Type} (H : AHeap) (lo base : Nat) (T : List Nat) (d : Nat) (x : AV) (k : AV → R) : R :=
  match x with
  | .agg cs => fL (renS H lo base T d) cs fun cs => k (.agg cs)
  | .fn f cs => fL (renS H lo base T d) cs fun cs => k (.fn f cs)
  | x => renS H lo base T d x k
theorem ren1S_eq {R : Type} (H : AHeap) (lo base : Nat) (T : List Nat) (d : Nat) (x : AV) (k : AV → R) : ren1S H lo base T d x k = k (ren1 H lo base T d x) := by
  cases x <;> simp only [ren1S, ren1, renS_eq, fL_map (renS_eq H lo base T d)]
def renV (H : AHeap) (lo base : Nat) (T : List Nat) (d : Nat) (x : AV) : AV :=
  match x with
  | .tup cs => .tup (cs.map (ren1 H lo base T d))
  | x => ren1 H lo base T d x
def renVS {R : Type} (H : AHeap) (lo base : Nat) (T : List Nat) (d : Nat) (x : AV) (k : AV → R) : R :=
  match x with
  | .tup cs => fL (ren1S H lo base T d) cs fun cs => k (.tup cs)
  | x => ren1S H lo base T d x k
theorem renVS_eq {R : Type} (H : AHeap) (lo base : Nat) (T : List Nat) (d : Nat) (x : AV) (k : AV → R) : renVS H lo base T d x k = k (renV H lo base T d x) := by
  cases x <;> simp only [renVS, renV, ren1S_eq, fL_map (ren1S_eq H lo base T d)]
/-- The names that go over: those of the slices and pointers at a result's top, and in what such a pointer points to. -/
def addN (lo : Nat) (T : List Nat) : AV → List Nat
  | .os n _ _ _ | .op n _ _ _ => if Nat.blt n lo || T.any (Nat.beq n) then T else T ++ [n]
  | _ => T
def ownN2 (H : AHeap) (lo : Nat) (T : List Nat) : AV → List Nat
  | .agg cs | .fn _ cs => cs.foldl (addN lo) T
  | .op n e i j => if Nat.blt n lo then T else match H.get n with
    | some b => b.es.foldl (fun T cs => cs.foldl (addN lo) T) (addN lo T (.op n e i j))
    | none => T
  | x => addN lo T x
def ownN (H : AHeap) (lo : Nat) : AV → List Nat
  | .tup cs => cs.foldl (ownN2 H lo) []
  | x => ownN2 H lo [] x
def blksA (H : AHeap) (lo base : Nat) (T : List Nat) (d : Nat) : List Nat → Option (List Blk)
  | [] => some []
  | n :: r => match H.get n with
    | none => none
    | some b => (blksA H lo base T d r).map ({ b with ep := 0, es := b.es.map fun cs => cs.map (renC H lo base T d) } :: ·)
def blksS {R : Type} (H : AHeap) (lo base : Nat) (T : List Nat) (d : Nat) : List Nat → (List Blk → Option R) → Option R
  | [], k => k []
  | n :: r, k => match H.get n with
    | none => none
    | some b => fL (fL (renS H lo base T d)) b.es fun es => blksS H lo base T d r fun bs => k ({ b with ep := 0, es } :: bs)
theorem blksS_eq {R : Type} (H : AHeap) (lo base : Nat) (T : List Nat) (d : Nat) (l : List Nat) (k : List Blk → Option R) : blksS H lo base T d l k = (blksA H lo base T d l).bind k := by
  induction l generalizing k with
  | nil => rfl
  | cons n r ih =>
    simp only [blksS, blksA]
    cases H.get n with
    | none => rfl
    | some b =>
      simp only [fL_map (fun l (k : List AV → Option R) => fL_map (renS_eq H lo base T d) l k), ih]
      cases blksA H lo base T d r <;> rfl
def pushAll (G : AHeap) : List Blk → AHeap
  | [] => G
  | b :: r => pushAll (G.push b) r
def pushS {R : Type} (G : AHeap) : List Blk → (AHeap → R) → R
  | [], k => k G
  | b :: r, k => fNat (G.next + 1) fun nx => pushS ⟨(G.next, b) :: G.l, nx, G.js⟩ r k
theorem pushS_eq {R : Type} (G : AHeap) (l : List Blk) (k : AHeap → R) : pushS G l k = k (pushAll G l) := by
  induction l generalizing G with
  | nil => rfl
  | cons b r ih => simp only [pushS, fNat_eq, ih, pushAll]; rfl
def nodupN : List Nat → Bool
  | [] => true
  | n :: r => !(r.any (Nat.beq n)) && nodupN r
/-- What a call hands back, and the caller's heap G thereafter. -/
def hand (H : AHeap) (lo : Nat) (own : Bool) (G : AHeap) (x : AV) : Option (AV × AHeap) :=
  let T := if own then ownN H lo x else []
  if nodupN T && T.all (Nat.ble lo) then
    blksS H lo G.next T frzDepth T fun bs => renVS H lo G.next T frzDepth x fun x => pushS G bs fun G => some (x, G)
  else none
theorem hand_ok' {H : AHeap} {lo : Nat} {own : Bool} {G : AHeap} {x y : AV} {G' : AHeap} (h : hand H lo own G x = some (y, G')) :
    ∃ T bs, nodupN T = true ∧ (∀ n ∈ T, lo ≤ n) ∧ blksA H lo G.next T frzDepth T = some bs ∧ y = renV H lo G.next T frzDepth x ∧ G' = pushAll G bs ∧ (own = false → T = []) := by
  unfold hand at h
  dsimp only at h
  generalize hT : (if own then ownN H lo x else []) = T at h
  split at h
  · rename_i hc
    simp only [Bool.and_eq_true, List.all_eq_true, Nat.ble_eq] at hc
    rw [blksS_eq] at h
    simp only [renVS_eq, pushS_eq] at h
    cases hb : blksA H lo G.next T frzDepth T with
    | none => rw [hb] at h; cases h
    | some bs =>
      rw [hb] at h
      simp only [Option.bind_some, Option.some.injEq, Prod.mk.injEq] at h
      exact ⟨T, bs, hc.1, hc.2, hb, h.1.symm, h.2.symm, fun e => by subst e; simpa using hT.symm⟩
  · cases h

/-- Without names: what a pure call takes. -/
def nf : AV → Bool
  | .v _ | .sl _ _ | .e0 | .fp _ | .dead => true
  | .agg cs => cs.all fun | .v _ | .sl _ _ | .e0 | .fp _ | .dead => true | .fn _ [] => true | _ => false
  | .fn _ [] => true
  | _ => false

/-- What an operation touched, by bits: names read; names written or made; 1: a call that reads all; 2: one that may write all. -/
structure Tr where
  rd : Nat
  wr : Nat
  all : Nat

structure CallF where
  call : Bool → Nat → FuncId → List AV → AHeap → Option (AV × AHeap)   -- the flag: may the callee yield?
  yield : Nat → List AV → AHeap → Option (AV × AHeap)

def bitsOf : List Nat → Nat
  | [] => 0
  | n :: r => Nat.lor (Nat.pow 2 n) (bitsOf r)
/-- The k names from base on. -/
def newBits (base k : Nat) : Nat := Nat.mul (Nat.pow 2 base) (Nat.sub (Nat.pow 2 k) 1)

def runPlan (E : Env) (callf : CallF) (lo : Nat) (H : AHeap) : Plan → Option (AV × AHeap × Tr)
  | .prim rd k => match getAll H rd with
    | none => none
    | some bs => match k bs with
      | none => none
      | some (.none x) => fA x fun x => fNat (bitsOf rd) fun m => some (x, H, ⟨m, 0, 0⟩)
      | some (.set n b x) => if Nat.ble lo n && rd.any (Nat.beq n) then fA x fun x => fBlk b fun b => fPut H.l n b fun l => fNat (bitsOf rd) fun m => fNat (Nat.pow 2 n) fun m' => some (x, ⟨l, H.next, H.js⟩, ⟨m, m', 0⟩) else none
      | some (.new b x) => match H with
        | ⟨l, nx, js⟩ => fA (x nx) fun x => fBlk b fun b => fNat (nx + 1) fun nx' => fNat (bitsOf rd) fun m => fNat (Nat.pow 2 nx) fun m' => some (x, ⟨(nx, b) :: l, nx', js⟩, ⟨m, m', 0⟩)
  | .call f args =>
    match E.pol f with
    | .eff => match callf.call true lo f args H with
      | none => none
      | some (r, H') => some (r, H', ⟨0, 0, 2⟩)
    | m =>
      let own := match m with | .own => true | _ => false
      if args.all nf then match callf.call false 0 f args .empty with
        | none => none
        | some (r, H') => match hand H' 0 own H r with
          | none => none
          | some (r, G) => fNat (newBits H.next (G.next - H.next)) fun m => some (r, G, ⟨0, m, 0⟩)
      else match callf.call false H.next f args H with
        | none => none
        | some (r, H') => match hand H' H.next own H r with
          | none => none
          | some (r, G) => fNat (newBits H.next (G.next - H.next)) fun m => some (r, G, ⟨0, m, 1⟩)
  | .yield k args => match callf.yield k args H with
    | none => none
    | some (r, H') => some (r, H', ⟨0, 0, 2⟩)
  | .bad => none

structure St where
  tm : Slots
  H : AHeap

noncomputable def wantedA (o : Oper) (ops : List Oper) (tm : Slots) : Option Bool :=
  match o.guard with
  | none => some true
  | some (j, want) => match (ops[j]?).bind (·.dst) with
    | none => some false
    | some t => match tm.get t with
      | .v (.bool b) => some (b == want)
      | .tup [] => some false
      | _ => none

noncomputable def putS {R : Type} (tm : Slots) (dst : Option Tmp) (x : AV) (k : Slots → Option R) : Option R :=
  match dst with
  | some d => tm.set d x k
  | none => k tm

noncomputable def stepOp (E : Env) (callf : CallF) (lo : Nat) (ops : List Oper) (o : Oper) (s : St) : Option (St × Tr) :=
  match wantedA o ops s.tm with
  | none => none
  | some false => putS s.tm o.dst (.tup []) fun tm => some (⟨tm, s.H⟩, ⟨0, 0, 0⟩)
  | some true => match runPlan E callf lo s.H (plan E o (aev s.tm)) with
    | none => none
    | some (x, H, tr) => putS s.tm o.dst x fun tm => some (⟨tm, H⟩, tr)

noncomputable def runOps (E : Env) (callf : CallF) (lo : Nat) (ops : List Oper) : List Oper → St → Option (St × List Tr)
  | [], s => some (s, [])
  | o :: rest, s => match stepOp E callf lo ops o s with
    | none => none
    | some (s, tr) => match runOps E callf lo ops rest s with
      | none => none
      | some (s, trs) => some (s, tr :: trs)

def bit (m i : Nat) : Bool := Nat.beq (Nat.land (Nat.shiftRight m i) 1) 1
/-- The operations ahead of each, by the edges that always bind. acc: those of the operations before, the last one first; n: how many. -/
noncomputable def ahead1 (acc : List Nat) (n : Nat) : List Edge → Nat → (Nat → Nat)
  | [], s => fun _ => s
  | e :: r, s => fun u => if Region.binds .any e && Nat.blt e.on n && !bit s e.on then fNat (Nat.lor (Nat.lor s (Nat.pow 2 e.on)) (getR 0 acc (n - 1 - e.on))) fun s => ahead1 acc n r s u else ahead1 acc n r s u
noncomputable def aheads : List Oper → List Nat → Nat → List Nat
  | [], _, _ => []
  | o :: rest, acc, n => let a := ahead1 acc n o.after.toList 0 0; fNat a fun a => a :: fNat (n + 1) fun n => aheads rest (a :: acc) n
def namesOp (ops : List Oper) (o : Oper) : List Nat :=
  o.dst.toList ++ (o.op.operands.toList.filterMap fun | .tmp t => some t | _ => none) ++ (match o.guard with | some (j, _) => ((ops[j]?).bind (·.dst)).toList | none => [])
def clash (x y : Tr) : Bool :=
  !(Nat.beq (Nat.lor (Nat.land x.wr (Nat.lor y.rd y.wr)) (Nat.land y.wr x.rd)) 0) ||
  (!(Nat.beq (Nat.add x.all y.all) 0) &&
    ((Nat.beq x.all 2 && !(Nat.beq (Nat.add (Nat.add y.rd y.wr) y.all) 0)) || (Nat.beq y.all 2 && !(Nat.beq (Nat.add (Nat.add x.rd x.wr) x.all) 0)) ||
     (!(Nat.beq x.all 0) && !(Nat.beq y.wr 0)) || (!(Nat.beq y.all 0) && !(Nat.beq x.wr 0))))
/-- Of two operations that clash, one is ahead of the other. -/
def okPairs : List Nat → List Tr → Nat → List (Nat × Tr) → Bool
  | _, [], _, _ => true
  | as, x :: xs, i, pre =>
    match as with
    | [] => false
    | a :: as =>
      if Nat.beq (Nat.add (Nat.add x.rd x.wr) x.all) 0 then fNat (i + 1) fun i => okPairs as xs i pre
      else match pre.all fun p => bit a p.1 || !clash p.2 x with
        | true => fNat (i + 1) fun i' => okPairs as xs i' ((i, x) :: pre)
        | false => false
/-- The slots that the operations touch. -/
def slotTrs (ops : List Oper) : List Oper → List Tr
  | [] => []
  | o :: r => (fNat (bitsOf (namesOp ops o)) fun m => fNat (bitsOf o.dst.toList) fun m' => ⟨m, m', 0⟩) :: slotTrs ops r
/-- Every edge that binds leads back. -/
def okBack : List Oper → Nat → Bool
  | [], _ => true
  | o :: r, n => (o.after.toList.all fun e => !Region.binds .any e || Nat.blt e.on n) && fNat (n + 1) fun n => okBack r n

noncomputable def resultsA (P : Program) (fn : Func) (s : St) : Option AV := do
  let vs ← fn.results.toList.mapM fun
    | .tmp t => some (s.tm.get t)
    | .cell a t => match s.tm.get a with
      | .op n e i j => (s.H.get n).bind fun b => if b.ep = e ∧ b.it.isNone ∧ i < b.es.length ∧ j ≤ b.sz then partA P t ((b.es.getD i []).drop j) else none
      | _ => none
  match vs with
  | [x] => some x
  | vs => some (.tup vs)

/-- A loop over a function that is under way: the frame's slots; the loop's variables; the assignment to its left sides; its body. -/
structure LRec where
  tm : Slots
  params : List Tmp
  assign : Code
  body : Code

noncomputable def setAll {R : Type} (tm : Slots) : List (Tmp × AV) → (Slots → Option R) → Option R
  | [], k => k tm
  | (t, x) :: r, k => tm.set t x fun tm => setAll tm r k

/-- A piece of code, run: in a round of a loop over a function? the loops over functions whose yields may be called; the names below which nothing is written. -/
abbrev Run := Bool → List (Nat × LRec) → Nat → Code → St → Option (AX × St)

noncomputable def callG (E : Env) (go : Run) (ys : List (Nat × LRec)) (lo : Nat) (f : FuncId) (args : List AV) (H : AHeap) : Option (AV × AHeap) :=
  match E.P.funcs[f]? with
  | none => none
  | some fn => match fn.body with
    | none => none
    | some body => if fn.ntmps < args.length then none else fL fH args fun args => Slots.mk' fn.ntmps args fun tm =>
      match go false ys lo body ⟨tm, H⟩ with
      | some (.normal, s') | some (.ret, s') => match resultsA E.P fn s' with
        | some r => fA r fun r => some (r, s'.H)
        | none => none
      | _ => none
noncomputable def yieldG (go : Run) (ys : List (Nat × LRec)) (lo k : Nat) (args : List AV) (H : AHeap) : Option (AV × AHeap) :=
  match ys.find? fun p => p.1 == k with
  | none => none
  | some (_, r) => match H.js[k]? with
    | some .on =>
      if r.params.length = args.length then
        setAll r.tm (r.params.zip args) fun tm =>
        match go true [] lo r.assign ⟨tm, H⟩ with
        | some (.normal, s1) =>
          match go true [] lo r.body ⟨s1.tm, { s1.H with js := s1.H.js.set k .busy }⟩ with
          | some (.normal, s2) => some (.v (.bool true), { s2.H with js := s2.H.js.set k .on })
          | some (x, s2) => some (.v (.bool false), { s2.H with js := s2.H.js.set k (.jump x) })
          | none => none
        | _ => none
      else none
    | _ => none
noncomputable def callF (E : Env) (go : Run) (ys : List (Nat × LRec)) (lo : Nat) : CallF where
  call := fun y lo f args H => callG E go (if y then ys else []) lo f args H
  yield := fun k args H => yieldG go ys lo k args H

noncomputable def execF (E : Env) (go : Run) : Run := fun rd ys lo c s =>
  match c with
  | .skip | .label _ => some (.normal, s)
  | .region _ ops draw =>
    let l := ops.toList
    match runOps E (callF E go ys lo) lo l l s with
    | none => none
    | some (s', trs) =>
      if draw then
        let ah := aheads l [] 0
        if okBack l 0 && okPairs ah (slotTrs l l) 0 [] && okPairs ah trs 0 [] then some (.normal, s') else none
      else some (.normal, s')
  | .seq a b => match go rd ys lo a s with
    | none => none
    | some (.normal, s') => go rd ys lo b s'
    | some (x, s') => some (x, s')
  | .cond c a b => match aev s.tm c with
    | .v (.bool true) => go rd ys lo a s
    | .v (.bool false) => go rd ys lo b s
    | _ => none
  | .block id c => match go rd ys lo c s with
    | some (.exit id', s') => if id' = id then some (.normal, s') else some (.exit id', s')
    | r => r
  | .loop c => match go rd ys lo c s with
    | none => none
    | some (.normal, s') => go rd ys lo (.loop c) s'
    | some (x, s') => some (x, s')
  | .scope c => go rd ys lo c s
  | .exit id => some (.exit id, s)
  | .ret => some (.ret, s)
  | .rangeFunc f params assign body =>
    if rd then none else
    match aev s.tm f with
    | .fn g caps =>
      match E.pol g with
      | .eff =>
        let k := s.H.js.length
        match callG E go ((k, ⟨s.tm, params.toList, assign, body⟩) :: ys) lo g (.yl k :: caps) { s.H with js := s.H.js ++ [.on] } with
        | none => none
        | some (_, H') => match H'.js[k]? with
          | some .on => some (.normal, ⟨s.tm, { H' with js := H'.js.set k .off }⟩)
          | some (.jump x) => some (x, ⟨s.tm, { H' with js := H'.js.set k .off }⟩)
          | _ => none
      | _ => none
    | _ => none
  | _ => none

noncomputable def exec (E : Env) : Nat → Run
  | 0 => fun _ _ _ _ _ => none
  | n + 1 => execF E (exec E n)

noncomputable def acall (E : Env) (ys : List (Nat × LRec)) (n lo : Nat) (f : FuncId) (args : List AV) (H : AHeap) : Option (AV × AHeap) := callG E (exec E n) ys lo f args H

end Go.Am
