/- Parts of the proof: AmDefs AmRel AmBase. -/
import Derived.Calls
import Derived.Orders
import Derived.Laws.AppendOwn
import Derived.Laws.BytesArg
import Derived.KernelRfl
import Derived.CallsIn
import Derived.OrdersIn
import Derived.Below
import Derived.Laws.StructEq
import Derived.Laws.NewFold
import Derived.Laws.CopyRow
set_option linter.all false
set_option linter.deprecated false

namespace Go.Am

/-- Abstract values. v: a value without an address; sl: a slice whose elements are never written again, by the cells of an element and its elements' cells; e0: a slice of length and capacity 0; fp: a pointer into memory that is never written again, by the cells from there on; os: a slice of an owned block (name, epoch, first element, length); op: a pointer into an owned block (name, epoch, element, cell); yl: the yield of a loop over a function. -/
inductive AV where
  | v (x : Value)
  | sl (sz : Nat) (es : List (List AV))
  | e0
  | fp (cs : List AV)
  | os (n e off len : Nat)
  | op (n e i j : Nat)
  | agg (cs : List AV)
  | tup (vs : List AV)
  | fn (f : FuncId) (caps : List AV)
  | yl (k : Nat)
  | dead
  deriving Inhabited

/-- How a piece of code is left. -/
inductive AX where
  | normal
  | exit (id : Nat)
  | ret
  deriving DecidableEq
def AX.code : AX → Code
  | .normal => .skip
  | .exit id => .exit id
  | .ret => .ret
/-- A loop over a function: under way; in a round; left by a jump; over. -/
inductive LS where
  | on
  | busy
  | jump (x : AX)
  | off
  deriving DecidableEq

structure Blk where
  elem : TypeId
  sz : Nat
  ep : Nat
  es : List (List AV)
  it : Option (ByteArray × Nat) := none

structure AHeap where
  l : List (Nat × Blk)
  next : Nat
  js : List LS := []

def look : List (Nat × Blk) → Nat → Option Blk
  | [], _ => none
  | (k, b) :: r, n => if k = n then some b else look r n
def putB : List (Nat × Blk) → Nat → Blk → List (Nat × Blk)
  | [], n, b => [(n, b)]
  | (k, c) :: r, n, b => if k = n then (k, b) :: r else (k, c) :: putB r n b
def AHeap.get (H : AHeap) (n : Nat) : Option Blk := look H.l n
def AHeap.set (H : AHeap) (n : Nat) (b : Blk) : AHeap := { H with l := putB H.l n b }
def AHeap.push (H : AHeap) (b : Blk) : AHeap := { H with l := (H.next, b) :: H.l, next := H.next + 1 }
def AHeap.empty : AHeap := ⟨[], 0, []⟩

def plain : Value → Bool
  | .bool _ | .int _ _ | .float _ _ | .complex _ _ _ | .string _ => true
  | .pointer a => a.isNone
  | .slice a n c => a.isNone && n == 0 && c == 0
  | .map r => r.isNone
  | .chan r => r.isNone
  | .nilFunc | .nilIface => true
  | _ => false

def ofCell (x : Value) : AV :=
  match x with
  | .func (.func f) first caps => if first.size = 0 ∧ caps.size = 0 then .fn f [] else .dead
  | x => if plain x then .v x else .dead
def ofVal (x : Value) : AV :=
  match x with
  | .agg cs => if cs.toList.all (·.oneCell') then .agg (cs.toList.map ofCell) else .dead
  | x => ofCell x

/-! The slots of a frame, in rows of eight. -/
/-- By the recursors themselves: fewer steps for the kernel. -/
noncomputable def getR {α : Type} (d : α) (l : List α) (n : Nat) : α := List.rec (motive := fun _ => Nat → α) (fun _ => d) (fun h _ ih n => Nat.rec h (fun m _ => ih m) n) l n
noncomputable def setR {α R : Type} (x : α) (l : List α) (n : Nat) (k : List α → Option R) : Option R :=
  List.rec (motive := fun _ => Nat → (List α → Option R) → Option R) (fun _ _ => none) (fun h t ih n k => Nat.rec (k (x :: t)) (fun m _ => ih m fun t => k (h :: t)) n) l n k
structure Slots where
  n : Nat
  c : List (List AV)
noncomputable def Slots.get (s : Slots) (t : Nat) : AV := getR (.tup []) (getR [] s.c (t / 8)) (t % 8)
noncomputable def Slots.set {R : Type} (s : Slots) (t : Nat) (x : AV) (k : Slots → Option R) : Option R :=
  match s with
  | ⟨n, c⟩ => match Nat.blt t n with
    | true => setR x (getR [] c (t / 8)) (t % 8) fun row => setR row c (t / 8) fun c => k ⟨n, c⟩
    | false => k ⟨n, c⟩
def row8 {R : Type} (l : List AV) (k : List AV → List AV → R) : R :=
  let u : AV := .tup []
  match l with
  | [] => k [u, u, u, u, u, u, u, u] []
  | [a] => k [a, u, u, u, u, u, u, u] []
  | [a, b] => k [a, b, u, u, u, u, u, u] []
  | [a, b, c] => k [a, b, c, u, u, u, u, u] []
  | [a, b, c, d] => k [a, b, c, d, u, u, u, u] []
  | [a, b, c, d, e] => k [a, b, c, d, e, u, u, u] []
  | [a, b, c, d, e, f] => k [a, b, c, d, e, f, u, u] []
  | [a, b, c, d, e, f, g] => k [a, b, c, d, e, f, g, u] []
  | a :: b :: c :: d :: e :: f :: g :: h :: r => k [a, b, c, d, e, f, g, h] r
def rows8 {R : Type} : Nat → List AV → (List (List AV) → R) → R
  | 0, _, k => k []
  | m + 1, l, k => row8 l fun row l => rows8 m l fun c => k (row :: c)
def Slots.mk' {R : Type} (n : Nat) (args : List AV) (k : Slots → R) : R := rows8 ((n + 7) / 8) args fun c => k ⟨n, c⟩

noncomputable def aev (tm : Slots) : Operand → AV
  | .tmp t => tm.get t
  | .const x => ofVal x
  | .global _ => .dead
  | .func f => .fn f []

/-- What a computation gives that neither looks at the world nor turns it. -/
def det {α : Type} (P : Program) : Sem α → Option α
  | .pure a => some a
  | .program k => det P (k P)
  | .mark _ k => det P k
  | _ => none

/-- The cells of a value that is stored or boxed. -/
def cellsOf : AV → Option (List AV)
  | .agg cs => some cs
  | .tup _ | .dead => none
  | x => some [x]

inductive Eff where
  | none (x : AV)
  | set (n : Nat) (b : Blk) (x : AV)
  | new (b : Blk) (x : Nat → AV)

inductive Plan where
  | prim (rd : List Nat) (k : List Blk → Option Eff)
  | call (f : FuncId) (args : List AV)
  | yield (k : Nat) (args : List AV)
  | bad

/-- The kind of a cell that is compared. -/
inductive EK where
  | i | b | s
  deriving DecidableEq

inductive Mode where
  | pure | own | eff | orc
  deriving DecidableEq

structure Env where
  P : Program
  pol : FuncId → Mode
  eqT : TypeId → Option (List EK)   -- structs whose '==' is told: their cells' kinds
  orc : FuncId → List AV → Option AV := fun _ _ => none   -- functions whose answers were proved elsewhere
  frzB : TypeId → Bool := fun _ => false   -- slices that are frozen where they are built

def Plan.val (x : AV) : Plan := .prim [] fun _ => some (.none x)
def Plan.opt (x : Option AV) : Plan := .prim [] fun _ => x.map .none
def plainV (x : Option Value) : Option AV := x.bind fun v => if plain v then some (.v v) else none

def flatC : AV → Bool
  | .v _ | .sl _ _ | .e0 | .fp _ => true
  | _ => false
/-- A slice that is built: a block of its own, or frozen at once. -/
def newB (f : Bool) (elem : TypeId) (size len : Nat) (es : List (List AV)) : Eff :=
  bif f && es.all (fun c => c.all flatC) then .none (.sl size es) else .new { elem, sz := size, ep := 0, es } fun n => .os n 0 0 len
/-- The elements of a slice, handed on. -/
def sliceElems (b : Blk) (e off len : Nat) : Option (List (List AV)) :=
  if b.ep = e ∧ off + len ≤ b.es.length ∧ b.it.isNone then some ((b.es.drop off).take len) else none
def srd (x : AV) (k : Nat → List (List AV) → Option Eff) : Plan :=
  match x with
  | .sl sz es => .prim [] fun _ => k sz es
  | .e0 | .v (.slice none 0 0) => .prim [] fun _ => k 0 []
  | .os n e off len => .prim [n] fun
    | [b] => (sliceElems b e off len).bind (k b.sz)
    | _ => none
  | _ => .bad

def isStrT (P : Program) (t : TypeId) : Bool := match P.underlying t with | some .string => true | _ => false
def isSlT (P : Program) (t : TypeId) : Bool := match P.underlying t with | some (.slice _) => true | _ => false
def isU8T (P : Program) (t : TypeId) : Bool := match P.underlying t with | some (.int .u8) => true | _ => false
theorem isStrT_ok {P : Program} {t : TypeId} (h : isStrT P t = true) : P.underlying t = some .string := by
  unfold isStrT at h
  split at h
  · assumption
  · cases h
theorem isSlT_ok {P : Program} {t : TypeId} (h : isSlT P t = true) : ∃ e, P.underlying t = some (.slice e) := by
  unfold isSlT at h
  split at h
  · exact ⟨_, by assumption⟩
  · cases h
theorem isU8T_ok {P : Program} {t : TypeId} (h : isU8T P t = true) : P.underlying t = some (.int .u8) := by
  unfold isU8T at h
  split at h
  · assumption
  · cases h
def isAggT (P : Program) (t : TypeId) : Option Bool := (P.underlying t).map fun | .struct _ => true | .array _ _ => true | _ => false
def infoSize (P : Program) (t : TypeId) : Option Nat := (P.info? t).map (·.size)
def infoBytes (P : Program) (t : TypeId) : Option Nat := (P.info? t).map (·.bytes)
def zeroCells (P : Program) (t : TypeId) : Option (List AV) :=
  ((P.info? t).bind (·.zero)).bind fun z => if z.cells.toList.all plain then some (z.cells.toList.map .v) else none

/-- The part of some cells that a variable of a type takes. -/
def partA (P : Program) (t : TypeId) (cs : List AV) : Option AV := do
  let s ← infoSize P t
  if ← isAggT P t then (if s ≤ cs.length then some (.agg (cs.take s)) else none) else cs.head?

def setCells (el : List AV) (j : Nat) (cs : List AV) : List AV := el.take j ++ cs ++ el.drop (j + cs.length)

def fillA (place : Nat → Option (Nat × Nat)) (cells : List AV) : List (Nat × AV) → Option (List AV)
  | [] => some cells
  | (i, x) :: rest => do
    let (off, size) ← place i
    let cs ← cellsOf x
    if cs.length = size ∧ off + size ≤ cells.length then fillA place (setCells cells off cs) rest else none
def fillE (size : Nat) (es : List (List AV)) : List (Nat × AV) → Option (List (List AV))
  | [] => some es
  | (i, x) :: rest => do
    let cs ← cellsOf x
    if cs.length = size ∧ i < es.length then fillE size (es.set i cs) rest else none

def placesA (P : Program) : List Field → Option (List (Nat × Nat))
  | [] => some []
  | f :: r => do
    let s ← infoSize P f.type
    let ps ← placesA P r
    some ((f.offset, s) :: ps)

def fieldAt? (P : Program) (s : TypeId) (f : Nat) : Option (Nat × TypeId) :=
  match P.underlying s with
  | some (.struct fs) => (fs[f]?).map fun f => (f.offset, f.type)
  | _ => none

def eqCell : EK → AV → AV → Option Bool
  | .i, .v (.int k a), .v (.int k' b) => if k = k' then some (a == b) else none
  | .b, .v (.bool a), .v (.bool b) => some (a == b)
  | .s, .v (.string a), .v (.string b) => some (a == b)
  | _, _, _ => none
def eqCells : List EK → List AV → List AV → Option Bool
  | [], [], [] => some true
  | k :: ks, x :: xs, y :: ys => do
    let a ← eqCell k x y
    let b ← eqCells ks xs ys
    some (a && b)
  | _, _, _ => none

/-- A value that hangs on an owned block's being there. -/
def live (n e : Nat) (x : AV) : Plan := .prim [n] fun
  | [b] => if b.ep = e then some (.none x) else none
  | _ => none
/-- '==' (neg: '!=') where a side is no plain value: two structs; a pointer, a slice, a function against nil. -/
def eqPlan (E : Env) (t : TypeId) (neg : Bool) (x y : AV) : Plan :=
  match x, y with
  | .agg xs, .agg ys => match E.eqT t with
    | some ks => .opt ((eqCells ks xs ys).map fun b => .v (.bool (b != neg)))
    | none => .bad
  | x, y => match E.P.underlying t, x, y with
    | some (.pointer _), .fp _, .v (.pointer none) => .val (.v (.bool neg))
    | some (.slice _), .sl _ _, .v (.slice none 0 0) => .val (.v (.bool neg))
    | some (.slice _), .e0, .v (.slice none 0 0) => .val (.v (.bool neg))
    | some (.func _ _ _), .fn _ _, .v .nilFunc => .val (.v (.bool neg))
    | some (.slice _), .os n e _ _, .v (.slice none 0 0) => live n e (.v (.bool neg))
    | some (.pointer _), .op n e _ _, .v (.pointer none) => live n e (.v (.bool neg))
    | _, _, _ => .bad

def binOpA (E : Env) (op : BinOp) (t : TypeId) (xo yo : Operand) (x y : AV) : Plan :=
  match x, y with
  | .v a, .v b => .opt (plainV (det E.P (do eqGuard op t xo yo a b; binOp op t a b)))
  | x, y => match op with
    | .eql => eqPlan E t false x y
    | .neq => eqPlan E t true x y
    | _ => .bad

def numsOf (k : IntKind) : List (List AV) → Option (List Int)
  | [] => some []
  | [.v (.int k' n)] :: r => if k' = k then (numsOf k r).map (n :: ·) else none
  | _ => none

def convA (E : Env) (src dst : TypeId) (x : AV) : Plan :=
  match x with
  | .v a => .opt (plainV (det E.P (convert src dst a)))
  | x => match E.P.underlying src with
    | some (.slice e) => if isStrT E.P dst && isU8T E.P e then srd x fun _ es => (numsOf .u8 es).map fun l => .none (.v (.string (strOfNums l))) else .bad
    | _ => .bad

def bound? (x : Option AV) (d : Nat) : Option Nat :=
  match x with
  | none => some d
  | some (.v (.int _ i)) => if 0 ≤ i then some i.toNat else none
  | _ => none

def sliceA (E : Env) (t : TypeId) (x : AV) (lo hi mx : Option AV) : Plan :=
  match x with
  | .v (.string s) =>
    match lo, hi, mx with
    | lo, hi, none => match bound? lo 0, bound? hi s.size with
      | some l, some h => if l ≤ h ∧ h ≤ s.size ∧ isStrT E.P t then .val (.v (.string (s.extract l h))) else .bad
      | _, _ => .bad
    | _, _, _ => .bad
  | x =>
    match E.P.underlying t with
    | some (.slice elem) =>
      match infoSize E.P elem with
      | none => .bad
      | some size =>
      match x, mx with
      | .v (.slice none 0 0), none => match bound? lo 0, bound? hi 0 with
        | some 0, some 0 => .val x
        | _, _ => .bad
      | .e0, none => match bound? lo 0, bound? hi 0 with
        | some 0, some 0 => .val x
        | _, _ => .bad
      | .sl sz es, none => match bound? lo 0, bound? hi es.length with
        | some l, some h => if l ≤ h ∧ h ≤ es.length ∧ sz = size then .val (.sl sz ((es.drop l).take (h - l))) else .bad
        | _, _ => .bad
      | .os n e off len, none => match bound? lo 0, bound? hi len with
        | some l, some h => .prim [n] fun
          | [b] => if b.ep = e ∧ b.it.isNone ∧ l ≤ h ∧ off + h ≤ b.es.length ∧ b.sz = size ∧ off + len ≤ b.es.length then some (.none (.os n e (off + l) (h - l))) else none
          | _ => none
        | _, _ => .bad
      | x, some m => match bound? lo 0, hi, bound? (some m) 0, x with
        | some 0, some (.v (.int _ 0)), some 0, .sl _ _ => .val .e0
        | some 0, some (.v (.int _ 0)), some 0, .e0 => .val .e0
        | some 0, some (.v (.int _ 0)), some 0, .v (.slice none 0 0) => .val x
        | some 0, some (.v (.int _ 0)), some 0, .os n e _ _ => live n e .e0
        | _, _, _, _ => .bad
      | _, _ => .bad
    | _ => .bad

def roomMax : Nat := 140737488355328

def appendA (E : Env) (t : TypeId) (s x : AV) : Plan :=
  match E.P.underlying t with
  | some (.slice elem) =>
    match infoBytes E.P elem, infoSize E.P elem, zeroCells E.P elem with
    | some bytes, some size, some z =>
      if size = 0 ∨ bytes = 0 ∨ z.length ≠ size then .bad else
      let fresh (s : AV) (sz : Nat) (new : List (List AV)) : Option Eff :=
        if new.isEmpty then some (.none s)
        else if new.length * bytes ≤ roomMax ∧ sz = size then some (.new { elem, sz := size, ep := 0, es := new } fun n => .os n 0 0 new.length) else none
      let onto (n e off len : Nat) (b : Blk) (sz : Nat) (new : List (List AV)) : Option Eff :=
        if b.ep = e ∧ b.it.isNone ∧ off + len ≤ b.es.length ∧ b.sz = size ∧ b.elem = elem then
          if new.isEmpty then some (.none (.os n e off len))
          else if (len + new.length) * bytes ≤ roomMax ∧ sz = size then some (.set n { b with ep := e + 1, es := (b.es.drop off).take len ++ new } (.os n (e + 1) 0 (len + new.length))) else none
        else none
      match s, x with
      | .e0, x | .v (.slice none 0 0), x => srd x (fresh s)
      | .sl sz es, .sl _ [] => .val (.sl sz es)
      | .sl sz es, .e0 => .val (.sl sz es)
      | .sl sz es, .v (.slice none 0 0) => .val (.sl sz es)
      | .os n e off len, .os m e' off' len' => .prim [n, m] fun
        | [b, c] => if n = m then none else (sliceElems c e' off' len').bind (onto n e off len b c.sz)
        | _ => none
      | .os n e off len, .sl sz new => .prim [n] fun | [b] => onto n e off len b sz new | _ => none
      | .os n e off len, .e0 => .prim [n] fun | [b] => onto n e off len b 0 [] | _ => none
      | .os n e off len, .v (.slice none 0 0) => .prim [n] fun | [b] => onto n e off len b 0 [] | _ => none
      | _, _ => .bad
    | _, _, _ => .bad
  | _ => .bad

/-- Elements written over others, from the first on. -/
def overE (es : List (List AV)) (off : Nat) (new : List (List AV)) : List (List AV) := es.take off ++ new ++ es.drop (off + new.length)

def copyA (E : Env) (t : TypeId) (d x : AV) : Plan :=
  match E.P.underlying t, d with
  | some (.slice elem), .os n e off len =>
    match infoSize E.P elem with
    | none => .bad
    | some size =>
      let go (b : Blk) (sz : Nat) (new : List (List AV)) : Option Eff :=
        let k := min new.length len
        if b.ep = e ∧ b.it.isNone ∧ off + len ≤ b.es.length ∧ b.sz = size ∧ (new.isEmpty ∨ sz = size) then some (.set n { b with es := overE b.es off (new.take k) } (.v (.int .i64 k))) else none
      match x with
      | .os m e' off' len' =>
        if n = m then .prim [n] fun | [b] => (sliceElems b e' off' len').bind (go b b.sz) | _ => none
        else .prim [n, m] fun | [b, c] => (sliceElems c e' off' len').bind (go b c.sz) | _ => none
      | .sl sz new => .prim [n] fun | [b] => go b sz new | _ => none
      | .e0 => .prim [n] fun | [b] => go b 0 [] | _ => none
      | .v (.slice none 0 0) => .prim [n] fun | [b] => go b 0 [] | _ => none
      | _ => .bad
  | _, _ => .bad

def allPlain : List AV → Option (List Value)
  | [] => some []
  | .v x :: r => (allPlain r).map (x :: ·)
  | _ => none

def builtinA (E : Env) (b : Builtin) (argTypes : Array TypeId) (type : TypeId) (args : List AV) : Plan :=
  match b, args, argTypes.toList with
  | .len, [.v (.string s)], [t] => if isStrT E.P t then .val (.v (.int .i64 s.size)) else .bad
  | .len, [x], [t] => if isSlT E.P t then srd x fun _ es => some (.none (.v (.int .i64 es.length))) else .bad
  | .cap, [.e0], [t] | .cap, [.v (.slice none 0 0)], [t] => if isSlT E.P t then .val (.v (.int .i64 0)) else .bad
  | .append, [s, x], [t, t'] => if t = t' then appendA E t s x else
      match E.P.underlying t, E.P.underlying t', x with   -- append([]byte, string...); append(s, make([]T, n)...)
      | some (.slice e), some (.int _), .v (.int _ l) => match infoSize E.P e, infoBytes E.P e, zeroCells E.P e with
        | some size, some bytes, some z => if 0 ≤ l ∧ l ≤ roomMax ∧ bytes * l ≤ roomMax ∧ z.length = size ∧ 0 < size then appendA E t s (.sl size (List.replicate l.toNat z)) else .bad
        | _, _, _ => .bad
      | some (.slice e), some .string, .v (.string str) => if isU8T E.P e then appendA E t s (.sl 1 (str.data.toList.map fun b => [.v (.int .u8 b.toNat)])) else .bad
      | _, _, _ => .bad
  | .copy, [d, x], [t, _] => copyA E t d x
  | .min, args, _ => match allPlain args with
    | some vs => .opt (plainV (det E.P (Builtin.min_ argTypes type vs.toArray)))
    | none => .bad
  | .max, args, _ => match allPlain args with
    | some vs => .opt (plainV (det E.P (Builtin.max_ argTypes type vs.toArray)))
    | none => .bad
  | _, _, _ => .bad

def plan (E : Env) (o : Oper) (ρ : Operand → AV) : Plan :=
  let P := E.P
  match o.op with
  | .move x | .assign x => .val (ρ x)
  | .pick c a b => match ρ c with
    | .v (.bool t) => .val (if t then ρ a else ρ b)
    | _ => .bad
  | .alloc t => match zeroCells P t with
    | some z => .prim [] fun _ => some (.new { elem := t, sz := z.length, ep := 0, es := [z] } fun n => .op n 0 0 0)
    | none => .bad
  | .box t x => match cellsOf (ρ x) with
    | some cs => .prim [] fun _ => some (.new { elem := t, sz := cs.length, ep := 0, es := [cs] } fun n => .op n 0 0 0)
    | none => .bad
  | .build t parts => match zeroCells P t, P.underlying t with
    | some z, some (.struct fields) => match placesA P fields.toList with
      | some ps => .opt ((fillA (fun i => ps[i]?) z (parts.toList.map fun p => (p.1, ρ p.2))).map .agg)
      | none => .bad
    | some z, some (.array _ elem) => match infoSize P elem with
      | some size => .opt ((fillA (fun i => some (i * size, size)) z (parts.toList.map fun p => (p.1, ρ p.2))).map .agg)
      | none => .bad
    | _, _ => .bad
  | .buildSlice t len parts => match P.underlying t with
    | some (.slice elem) => match infoSize P elem, zeroCells P elem with
      | some size, some z =>
        if len * size > 2 ^ 24 ∨ size = 0 ∨ z.length ≠ size then .bad else
        .prim [] fun _ => (fillE size (List.replicate len z) (parts.toList.map fun p => (p.1, ρ p.2))).map fun es => if len = 0 then .none .e0 else newB (E.frzB t) elem size len es
      | _, _ => .bad
    | _ => .bad
  | .load t a => match ρ a with
    | .fp cs => .opt (partA P t cs)
    | .op n e i j => .prim [n] fun
      | [b] => if b.ep = e ∧ b.it.isNone ∧ i < b.es.length ∧ j ≤ b.sz then (partA P t ((b.es.getD i []).drop j)).map .none else none
      | _ => none
    | _ => .bad
  | .store t a x => match ρ a, cellsOf (ρ x), infoSize P t with
    | .op n e i j, some cs, some s => .prim [n] fun
      | [b] => if b.ep = e ∧ b.it.isNone ∧ i < b.es.length ∧ cs.length = s ∧ j + s ≤ b.sz then some (.set n { b with es := b.es.set i (setCells (b.es.getD i []) j cs) } (.tup [])) else none
      | _ => none
    | _, _, _ => .bad
  | .nilCheck x => match ρ x with
    | .fp cs => .val (.fp cs)
    | .op n e i j => live n e (.op n e i j)
    | _ => .bad
  | .binOp op t x y _ => binOpA E op t x y (ρ x) (ρ y)
  | .unOp op _ x => match ρ x with
    | .v a => .opt (plainV (det P (Op.unary op a)))
    | _ => .bad
  | .convert src dst x => convA E src dst (ρ x)
  | .makeFunc fn first caps => match fn, first.toList with
    | .func f, [] => match (caps.toList.map ρ).mapM cellsOf with
      | some _ => .val (.fn f (caps.toList.map ρ))
      | none => .bad
    | _, _ => .bad
  | .makeSlice t l c => match P.underlying t, ρ l, ρ c with
    | some (.slice elem), .v (.int _ l), .v (.int _ c) => match infoSize P elem, infoBytes P elem, zeroCells P elem with
      | some size, some bytes, some z =>
        if 0 ≤ l ∧ l ≤ c ∧ bytes * c ≤ roomMax ∧ 0 < bytes ∧ 0 < size ∧ z.length = size then
          .prim [] fun _ => some (.new { elem, sz := size, ep := 0, es := List.replicate l.toNat z } fun n => .os n 0 0 l.toNat)
        else .bad
      | _, _, _ => .bad
    | _, _, _ => .bad
  | .slice t x lo hi mx => sliceA E t (ρ x) (lo.map ρ) (hi.map ρ) (mx.map ρ)
  | .fieldAddr s x f => match fieldAt? P s f with
    | some (off, ft) => match infoSize P ft, ρ x with
      | some (_ + 1), .op n e i j => live n e (.op n e i (j + off))
      | some (_ + 1), .fp cs => .val (.fp (cs.drop off))
      | _, _ => .bad
    | none => .bad
  | .field s x f => match fieldAt? P s f, ρ x with
    | some (off, ft), .agg cs => .opt (partA P ft (cs.drop off))
    | _, _ => .bad
  | .indexAddr t x ix => match P.underlying t, ρ ix with
    | some (.slice elem), .v (.int _ i) => match infoSize P elem, ρ x with
      | some size, .sl sz es => if 0 ≤ i ∧ i < es.length ∧ sz = size then .val (.fp (es.getD i.toNat [])) else .bad
      | some size, .os n e off len => .prim [n] fun
        | [b] => if b.ep = e ∧ b.it.isNone ∧ off + len ≤ b.es.length ∧ b.sz = size ∧ 0 ≤ i ∧ i < len then some (.none (.op n e (off + i.toNat) 0)) else none
        | _ => none
      | _, _ => .bad
    | some (.array len elem), .v (.int _ i) => match infoSize P elem, ρ x with
      | some size, .fp cs => if 0 ≤ i ∧ i < len then .val (.fp (cs.drop (i.toNat * size))) else .bad
      | some size, .op n e i' j => if 0 ≤ i ∧ i < len then live n e (.op n e i' (j + i.toNat * size)) else .bad
      | _, _ => .bad
    | _, _ => .bad
  | .index t x ix => match P.underlying t, ρ x, ρ ix with
    | some .string, .v (.string s), .v (.int _ i) => if 0 ≤ i then (match s.data.toList[i.toNat]? with | some b => .val (.v (.int .u8 b.toNat)) | none => .bad) else .bad
    | some (.array len elem), .agg cs, .v (.int _ i) => match infoSize P elem with
      | some size => if 0 ≤ i ∧ i < len then .opt (partA P elem (cs.drop (i.toNat * size))) else .bad
      | none => .bad
    | _, _, _ => .bad
  | .extract t k => match ρ t with
    | .tup vs => .opt (vs[k]?)
    | _ => .bad
  | .range t x => match P.underlying t, ρ x with
    | some .string, .v (.string s) => .prim [] fun _ => some (.new { elem := 0, sz := 0, ep := 0, es := [], it := some (s, 0) } fun n => .op n 0 0 0)
    | _, _ => .bad
  | .next it true => match ρ it with
    | .op n e 0 0 => .prim [n] fun
      | [b] => match b.it with
        | some (s, pos) =>
          if b.ep = e then
            if pos < s.size then
              some (.set n { b with it := some (s, pos + (Utf8.decode s pos).2) } (.tup [.v (.bool true), .v (.int .i64 pos), .v (.int .i32 (Utf8.decode s pos).1)]))
            else some (.none (.tup [.v (.bool false)]))
          else none
        | none => none
      | _ => none
    | _ => .bad
  | .call c => match c.callee with
    | .builtin b => builtinA E b c.argTypes o.type (c.args.toList.map ρ)
    | .value f => match ρ f with
      | .fn f caps => .call f (c.args.toList.map ρ ++ caps)
      | .yl k => .yield k (c.args.toList.map ρ)
      | _ => .bad
    | _ => .bad
  | _ => .bad

/-! Strict evaluation, for the kernel: each of these is its continuation at its argument. -/
section force
variable {R : Type}
def fNat (n : Nat) (k : Nat → R) : R := match n with | 0 => k 0 | n + 1 => k (n + 1)
theorem fNat_eq (n : Nat) (k : Nat → R) : fNat n k = k n := by cases n <;> rfl
def fInt (i : Int) (k : Int → R) : R := match i with | .ofNat n => fNat n fun n => k (.ofNat n) | .negSucc n => fNat n fun n => k (.negSucc n)
theorem fInt_eq (i : Int) (k : Int → R) : fInt i k = k i := by cases i <;> simp [fInt, fNat_eq]
def fBool (b : Bool) (k : Bool → R) : R := match b with | true => k true | false => k false
theorem fBool_eq (b : Bool) (k : Bool → R) : fBool b k = k b := by cases b <;> rfl
def fL {α : Type} (f : α → (α → R) → R) : List α → (List α → R) → R
  | [], k => k []
  | x :: xs, k => f x fun x => fL f xs fun xs => k (x :: xs)
theorem fL_eq {α : Type} {f : α → (α → R) → R} (hf : ∀ x k, f x k = k x) (l : List α) (k : List α → R) : fL f l k = k l := by
  induction l generalizing k with
  | nil => rfl
  | cons x xs ih => simp [fL, hf, ih]
def fByte (b : UInt8) (k : UInt8 → R) : R := fNat b.toNat fun n => k (UInt8.ofNat n)
theorem fByte_eq (b : UInt8) (k : UInt8 → R) : fByte b k = k b := by simp [fByte, fNat_eq]
def fStr (s : ByteArray) (k : ByteArray → R) : R := fL fByte s.data.toList fun l => k ⟨⟨l⟩⟩
theorem fStr_eq (s : ByteArray) (k : ByteArray → R) : fStr s k = k s := by simp [fStr, fL_eq fByte_eq]
def fVal (v : Value) (k : Value → R) : R :=
  match v with
  | .int κ i => fInt i fun i => k (.int κ i)
  | .bool b => fBool b fun b => k (.bool b)
  | .string s => fStr s fun s => k (.string s)
  | x => k x
theorem fVal_eq (v : Value) (k : Value → R) : fVal v k = k v := by cases v <;> simp [fVal, fInt_eq, fBool_eq, fStr_eq]
/-- A cell: its head and its numbers. -/
def fCell (x : AV) (k : AV → R) : R :=
  match x with
  | .v x => fVal x fun x => k (.v x)
  | .os n e off len => fNat n fun n => fNat e fun e => fNat off fun off => fNat len fun len => k (.os n e off len)
  | .op n e i j => fNat n fun n => fNat e fun e => fNat i fun i => fNat j fun j => k (.op n e i j)
  | x => k x
theorem fCell_eq (x : AV) (k : AV → R) : fCell x k = k x := by cases x <;> simp [fCell, fVal_eq, fNat_eq]
def fHead {α : Type} (l : List α) (k : List α → R) : R := match l with | [] => k [] | h :: t => k (h :: t)
theorem fHead_eq {α : Type} (l : List α) (k : List α → R) : fHead l k = k l := by cases l <;> rfl
/-- A value: its head, its numbers, its rows. -/
def fA (x : AV) (k : AV → R) : R :=
  match x with
  | .sl sz es => fNat sz fun sz => fL fHead es fun es => k (.sl sz es)
  | .fp cs => fL fCell cs fun cs => k (.fp cs)
  | .agg cs => fL fCell cs fun cs => k (.agg cs)
  | .tup cs => fL fCell cs fun cs => k (.tup cs)
  | .fn f cs => fNat f fun f => fL fCell cs fun cs => k (.fn f cs)
  | x => fCell x k
theorem fA_eq (x : AV) (k : AV → R) : fA x k = k x := by cases x <;> simp [fA, fL_eq fCell_eq, fL_eq (fHead_eq (α := AV)), fNat_eq, fCell_eq]
/-- A value that was forced before: its head. -/
def fH (x : AV) (k : AV → R) : R := match x with
  | .v x => k (.v x) | .sl a b => k (.sl a b) | .e0 => k .e0 | .fp a => k (.fp a) | .os a b c d => k (.os a b c d) | .op a b c d => k (.op a b c d)
  | .agg a => k (.agg a) | .tup a => k (.tup a) | .fn a b => k (.fn a b) | .yl a => k (.yl a) | .dead => k .dead
theorem fH_eq (x : AV) (k : AV → R) : fH x k = k x := by cases x <;> rfl
def fBlk (b : Blk) (k : Blk → R) : R :=
  match b with
  | ⟨t, sz, ep, es, it⟩ => fNat t fun t => fNat sz fun sz => fNat ep fun ep => fL (fL fCell) es fun es =>
    match it with
    | none => k ⟨t, sz, ep, es, none⟩
    | some (s, pos) => fNat pos fun pos => k ⟨t, sz, ep, es, some (s, pos)⟩
theorem fBlk_eq (b : Blk) (k : Blk → R) : fBlk b k = k b := by
  obtain ⟨t, sz, ep, es, it⟩ := b
  have e : ∀ (l : List AV) (k : List AV → R), fL fCell l k = k l := fL_eq fCell_eq
  rcases it with _ | ⟨s, pos⟩ <;> simp [fBlk, fNat_eq, fL_eq e]
def fPut : List (Nat × Blk) → Nat → Blk → (List (Nat × Blk) → R) → R
  | [], n, b, k => k [(n, b)]
  | (m, c) :: r, n, b, k => if m = n then k ((m, b) :: r) else fPut r n b fun r => k ((m, c) :: r)
theorem fPut_eq (l : List (Nat × Blk)) (n : Nat) (b : Blk) (k : List (Nat × Blk) → R) : fPut l n b k = k (putB l n b) := by
  induction l generalizing k with
  | nil => rfl
  | cons x r ih => obtain ⟨m, c⟩ := x; simp only [fPut, putB]; split <;> simp [ih]
end force

def getAll (H : AHeap) : List Nat → Option (List Blk)
  | [] => some []
  | n :: r => match H.get n with
    | none => none
    | some b => match getAll H r with
      | none => none
      | some bs => some (b :: bs)
theorem getAll_eq (H : AHeap) (l : List Nat) : getAll H l = l.mapM H.get := by
  induction l with
  | nil => rfl
  | cons n r ih => simp only [getAll, List.mapM_cons, ih]; cases H.get n <;> cases List.mapM H.get r <;> rfl

/-- Frozen: what lies in owned blocks is told by content. bad: the names that may not be told. -/
def frz (H : AHeap) (bad : Nat → Bool) : Nat → AV → AV
  | 0, _ => .dead
  | d + 1, x => match x with
    | .v x => .v x
    | .sl sz es => .sl sz es
    | .e0 => .e0
    | .fp cs => .fp cs
    | .os n e off len => if bad n then .dead else match H.get n with
      | some b => if b.ep = e ∧ b.it.isNone ∧ off + len ≤ b.es.length ∧ 0 < b.sz then .sl b.sz (((b.es.drop off).take len).map fun c => c.map (frz H bad d)) else .dead
      | none => .dead
    | .op n e i j => if bad n then .dead else match H.get n with
      | some b => if b.ep = e ∧ b.it.isNone ∧ i < b.es.length ∧ j < b.sz then .fp (((b.es.getD i []).drop j).map (frz H bad d)) else .dead
      | none => .dead
    | .agg cs => .agg (cs.map (frz H bad d))
    | .tup cs => .tup (cs.map (frz H bad d))
    | .fn f caps => .fn f (caps.map (frz H bad d))
    | .yl _ => .dead
    | .dead => .dead
theorem fL_map {R α : Type} {f : α → (α → R) → R} {g : α → α} (hf : ∀ x k, f x k = k (g x)) (l : List α) (k : List α → R) : fL f l k = k (l.map g) := by
  induction l generalizing k with
  | nil => rfl
  | cons x xs ih => simp [fL, hf, ih]
/-- The same, strictly. -/
def frzS {R : Type} (H : AHeap) (bad : Nat → Bool) : Nat → AV → (AV → R) → R
  | 0, _, k => k .dead
  | d + 1, x, k => match x with
    | .v x => k (.v x)
    | .sl sz es => k (.sl sz es)
    | .e0 => k .e0
    | .fp cs => k (.fp cs)
    | .os n e off len => if bad n then k .dead else match H.get n with
      | some b => if b.ep = e ∧ b.it.isNone ∧ off + len ≤ b.es.length ∧ 0 < b.sz then fL (fL (frzS H bad d)) ((b.es.drop off).take len) fun es => k (.sl b.sz es) else k .dead
      | none => k .dead
    | .op n e i j => if bad n then k .dead else match H.get n with
      | some b => if b.ep = e ∧ b.it.isNone ∧ i < b.es.length ∧ j < b.sz then fL (frzS H bad d) ((b.es.getD i []).drop j) fun cs => k (.fp cs) else k .dead
      | none => k .dead
    | .agg cs => fL (frzS H bad d) cs fun cs => k (.agg cs)
    | .tup cs => fL (frzS H bad d) cs fun cs => k (.tup cs)
    | .fn f cs => fL (frzS H bad d) cs fun cs => k (.fn f cs)
    | .yl _ => k .dead
    | .dead => k .dead
theorem frzS_eq {R : Type} (H : AHeap) (bad : Nat → Bool) (d : Nat) (x : AV) (k : AV → R) : frzS H bad d x k = k (frz H bad d x) := by
  induction d generalizing x R with
  | zero => rfl
  | succ d ih =>
    have e : ∀ {R : Type} (l : List AV) (k : List AV → R), fL (frzS H bad d) l k = k (l.map (frz H bad d)) := fun l k => fL_map ih l k
    cases x <;> simp only [frzS, frz, e] <;> (repeat' split) <;> first | rfl | simp_all [fL_map e]
def frzDepth : Nat := 12

def idxN : List Nat → Nat → Nat → Option Nat
  | [], _, _ => none
  | m :: r, n, i => if m = n then some i else idxN r n (i + 1)
def badN (lo : Nat) (T : List Nat) (n : Nat) : Bool := Nat.blt n lo || T.any (Nat.beq n)
/-- What goes back to the caller: names below lo are the caller's own and stay; the blocks of T go over, under names from base on; the rest is frozen. -/
def renC (H : AHeap) (lo base : Nat) (T : List Nat) (d : Nat) (x : AV) : AV :=
  match x with
  | .os n e off len => if n < lo then .os n e off len else match idxN T n 0 with
    | some k => match H.get n with
      | some b => if b.ep = e then .os (base + k) 0 off len else .dead
      | none => .dead
    | none => frz H (badN lo T) d (.os n e off len)
  | .op n e i j => if n < lo then .op n e i j else match idxN T n 0 with
    | some k => match H.get n with
      | some b => if b.ep = e then .op (base + k) 0 i j else .dead
      | none => .dead
    | none => frz H (badN lo T) d (.op n e i j)
  | x => frz H (badN lo T) d x
def renS {R : Type} (H : AHeap) (lo base : Nat) (T : List Nat) (d : Nat) (x : AV) (k : AV → R) : R :=
  match x with
  | .os n e off len => if n < lo then k (.os n e off len) else match idxN T n 0 with
    | some m => match H.get n with
      | some b => if b.ep = e then fNat (base + m) fun m => k (.os m 0 off len) else k .dead
      | none => k .dead
    | none => frzS H (badN lo T) d (.os n e off len) k
  | .op n e i j => if n < lo then k (.op n e i j) else match idxN T n 0 with
    | some m => match H.get n with
      | some b => if b.ep = e then fNat (base + m) fun m => k (.op m 0 i j) else k .dead
      | none => k .dead
    | none => frzS H (badN lo T) d (.op n e i j) k
  | x => frzS H (badN lo T) d x k
theorem renS_eq {R : Type} (H : AHeap) (lo base : Nat) (T : List Nat) (d : Nat) (x : AV) (k : AV → R) : renS H lo base T d x k = k (renC H lo base T d x) := by
  cases x <;> simp only [renS, renC, frzS_eq, fNat_eq] <;> (repeat' split) <;> first | rfl | simp_all
def ren1 (H : AHeap) (lo base : Nat) (T : List Nat) (d : Nat) (x : AV) : AV :=
  match x with
  | .agg cs => .agg (cs.map (renC H lo base T d))
  | .fn f cs => .fn f (cs.map (renC H lo base T d))
  | x => renC H lo base T d x
def ren1S {R : Type} (H : AHeap) (lo base : Nat) (T : List Nat) (d : Nat) (x : AV) (k : AV → R) : R :=
  match x with
  | .agg cs => fL (renS H lo base T d) cs fun cs => k (.agg cs)
  | .fn f cs => fL (renS H lo base T d) cs fun cs => k (.fn f cs)
  | x => renS H lo base T d x k
theorem ren1S_eq {R : Type} (H : AHeap) (lo base : Nat) (T : List Nat) (d : Nat) (x : AV) (k : AV → R) : ren1S H lo base T d x k = k (ren1 H lo base T d x) := by
  cases x <;> simp only [ren1S, ren1, renS_eq, fL_map (renS_eq H lo base T d)]
def renV (H : AHeap) (lo base : Nat) (T : List Nat) (d : Nat) (x : AV) : AV :=
  match x with
  | .tup cs => .tup (cs.map (ren1 H lo base T d))
  | x => ren1 H lo base T d x
def renVS {R : Type} (H : AHeap) (lo base : Nat) (T : List Nat) (d : Nat) (x : AV) (k : AV → R) : R :=
  match x with
  | .tup cs => fL (ren1S H lo base T d) cs fun cs => k (.tup cs)
  | x => ren1S H lo base T d x k
theorem renVS_eq {R : Type} (H : AHeap) (lo base : Nat) (T : List Nat) (d : Nat) (x : AV) (k : AV → R) : renVS H lo base T d x k = k (renV H lo base T d x) := by
  cases x <;> simp only [renVS, renV, ren1S_eq, fL_map (ren1S_eq H lo base T d)]
/-- The names that go over: those of the slices and pointers at a result's top, and in what such a pointer points to. -/
def addN (lo : Nat) (T : List Nat) : AV → List Nat
  | .os n _ _ _ | .op n _ _ _ => if Nat.blt n lo || T.any (Nat.beq n) then T else T ++ [n]
  | _ => T
def ownN2 (H : AHeap) (lo : Nat) (T : List Nat) : AV → List Nat
  | .agg cs | .fn _ cs => cs.foldl (addN lo) T
  | .op n e i j => if Nat.blt n lo then T else match H.get n with
    | some b => b.es.foldl (fun T cs => cs.foldl (addN lo) T) (addN lo T (.op n e i j))
    | none => T
  | x => addN lo T x
def ownN (H : AHeap) (lo : Nat) : AV → List Nat
  | .tup cs => cs.foldl (ownN2 H lo) []
  | x => ownN2 H lo [] x
def blksA (H : AHeap) (lo base : Nat) (T : List Nat) (d : Nat) : List Nat → Option (List Blk)
  | [] => some []
  | n :: r => match H.get n with
    | none => none
    | some b => (blksA H lo base T d r).map ({ b with ep := 0, es := b.es.map fun cs => cs.map (renC H lo base T d) } :: ·)
def blksS {R : Type} (H : AHeap) (lo base : Nat) (T : List Nat) (d : Nat) : List Nat → (List Blk → Option R) → Option R
  | [], k => k []
  | n :: r, k => match H.get n with
    | none => none
    | some b => fL (fL (renS H lo base T d)) b.es fun es => blksS H lo base T d r fun bs => k ({ b with ep := 0, es } :: bs)
theorem blksS_eq {R : Type} (H : AHeap) (lo base : Nat) (T : List Nat) (d : Nat) (l : List Nat) (k : List Blk → Option R) : blksS H lo base T d l k = (blksA H lo base T d l).bind k := by
  induction l generalizing k with
  | nil => rfl
  | cons n r ih =>
    simp only [blksS, blksA]
    cases H.get n with
    | none => rfl
    | some b =>
      simp only [fL_map (fun l (k : List AV → Option R) => fL_map (renS_eq H lo base T d) l k), ih]
      cases blksA H lo base T d r <;> rfl
def pushAll (G : AHeap) : List Blk → AHeap
  | [] => G
  | b :: r => pushAll (G.push b) r
def pushS {R : Type} (G : AHeap) : List Blk → (AHeap → R) → R
  | [], k => k G
  | b :: r, k => fNat (G.next + 1) fun nx => pushS ⟨(G.next, b) :: G.l, nx, G.js⟩ r k
theorem pushS_eq {R : Type} (G : AHeap) (l : List Blk) (k : AHeap → R) : pushS G l k = k (pushAll G l) := by
  induction l generalizing G with
  | nil => rfl
  | cons b r ih => simp only [pushS, fNat_eq, ih, pushAll]; rfl
def nodupN : List Nat → Bool
  | [] => true
  | n :: r => !(r.any (Nat.beq n)) && nodupN r
/-- What a call hands back, and the caller's heap G thereafter. -/
def hand (H : AHeap) (lo : Nat) (own : Bool) (G : AHeap) (x : AV) : Option (AV × AHeap) :=
  let T := if own then ownN H lo x else []
  if nodupN T && T.all (Nat.ble lo) then
    blksS H lo G.next T frzDepth T fun bs => renVS H lo G.next T frzDepth x fun x => pushS G bs fun G => some (x, G)
  else none
theorem hand_ok' {H : AHeap} {lo : Nat} {own : Bool} {G : AHeap} {x y : AV} {G' : AHeap} (h : hand H lo own G x = some (y, G')) :
    ∃ T bs, nodupN T = true ∧ (∀ n ∈ T, lo ≤ n) ∧ blksA H lo G.next T frzDepth T = some bs ∧ y = renV H lo G.next T frzDepth x ∧ G' = pushAll G bs ∧ (own = false → T = []) := by
  unfold hand at h
  dsimp only at h
  generalize hT : (if own then ownN H lo x else []) = T at h
  split at h
  · rename_i hc
    simp only [Bool.and_eq_true, List.all_eq_true, Nat.ble_eq] at hc
    rw [blksS_eq] at h
    simp only [renVS_eq, pushS_eq] at h
    cases hb : blksA H lo G.next T frzDepth T with
    | none => rw [hb] at h; cases h
    | some bs =>
      rw [hb] at h
      simp only [Option.bind_some, Option.some.injEq, Prod.mk.injEq] at h
      exact ⟨T, bs, hc.1, hc.2, hb, h.1.symm, h.2.symm, fun e => by subst e; simpa using hT.symm⟩
  · cases h

/-- Without names: what a pure call takes. -/
def nf : AV → Bool
  | .v _ | .sl _ _ | .e0 | .fp _ | .dead => true
  | .agg cs => cs.all fun | .v _ | .sl _ _ | .e0 | .fp _ | .dead => true | .fn _ [] => true | _ => false
  | .fn _ [] => true
  | _ => false

/-- What an operation touched, by bits: names read; names written or made; 1: a call that reads all; 2: one that may write all. -/
structure Tr where
  rd : Nat
  wr : Nat
  all : Nat

structure CallF where
  call : Bool → Nat → FuncId → List AV → AHeap → Option (AV × AHeap)   -- the flag: may the callee yield?
  yield : Nat → List AV → AHeap → Option (AV × AHeap)

def bitsOf : List Nat → Nat
  | [] => 0
  | n :: r => Nat.lor (Nat.pow 2 n) (bitsOf r)
/-- The k names from base on. -/
def newBits (base k : Nat) : Nat := Nat.mul (Nat.pow 2 base) (Nat.sub (Nat.pow 2 k) 1)

def runPlan (E : Env) (callf : CallF) (lo : Nat) (H : AHeap) : Plan → Option (AV × AHeap × Tr)
  | .prim rd k => match getAll H rd with
    | none => none
    | some bs => match k bs with
      | none => none
      | some (.none x) => fA x fun x => fNat (bitsOf rd) fun m => some (x, H, ⟨m, 0, 0⟩)
      | some (.set n b x) => if Nat.ble lo n && rd.any (Nat.beq n) then fA x fun x => fBlk b fun b => fPut H.l n b fun l => fNat (bitsOf rd) fun m => fNat (Nat.pow 2 n) fun m' => some (x, ⟨l, H.next, H.js⟩, ⟨m, m', 0⟩) else none
      | some (.new b x) => match H with
        | ⟨l, nx, js⟩ => fA (x nx) fun x => fBlk b fun b => fNat (nx + 1) fun nx' => fNat (bitsOf rd) fun m => fNat (Nat.pow 2 nx) fun m' => some (x, ⟨(nx, b) :: l, nx', js⟩, ⟨m, m', 0⟩)
  | .call f args =>
    match E.pol f with
    | .eff => match callf.call true lo f args H with
      | none => none
      | some (r, H') => some (r, H', ⟨0, 0, 2⟩)
    | .orc => if args.all nf then (match E.orc f args with
        | none => none
        | some r => some (r, H, ⟨0, 0, 0⟩))
      else match callf.call false H.next f args H with
        | none => none
        | some (r, H') => match hand H' H.next false H r with
          | none => none
          | some (r, G) => fNat (newBits H.next (G.next - H.next)) fun m => some (r, G, ⟨0, m, 1⟩)
    | m =>
      let own := match m with | .own => true | _ => false
      if args.all nf then match callf.call false 0 f args .empty with
        | none => none
        | some (r, H') => match hand H' 0 own H r with
          | none => none
          | some (r, G) => fNat (newBits H.next (G.next - H.next)) fun m => some (r, G, ⟨0, m, 0⟩)
      else match callf.call false H.next f args H with
        | none => none
        | some (r, H') => match hand H' H.next own H r with
          | none => none
          | some (r, G) => fNat (newBits H.next (G.next - H.next)) fun m => some (r, G, ⟨0, m, 1⟩)
  | .yield k args => match callf.yield k args H with
    | none => none
    | some (r, H') => some (r, H', ⟨0, 0, 2⟩)
  | .bad => none

structure St where
  tm : Slots
  H : AHeap

noncomputable def wantedA (o : Oper) (ops : List Oper) (tm : Slots) : Option Bool :=
  match o.guard with
  | none => some true
  | some (j, want) => match (ops[j]?).bind (·.dst) with
    | none => some false
    | some t => match tm.get t with
      | .v (.bool b) => some (b == want)
      | .tup [] => some false
      | _ => none

noncomputable def putS {R : Type} (tm : Slots) (dst : Option Tmp) (x : AV) (k : Slots → Option R) : Option R :=
  match dst with
  | some d => tm.set d x k
  | none => k tm

noncomputable def stepOp (E : Env) (callf : CallF) (lo : Nat) (ops : List Oper) (o : Oper) (s : St) : Option (St × Tr) :=
  match wantedA o ops s.tm with
  | none => none
  | some false => putS s.tm o.dst (.tup []) fun tm => some (⟨tm, s.H⟩, ⟨0, 0, 0⟩)
  | some true => match runPlan E callf lo s.H (plan E o (aev s.tm)) with
    | none => none
    | some (x, H, tr) => putS s.tm o.dst x fun tm => some (⟨tm, H⟩, tr)

noncomputable def runOps (E : Env) (callf : CallF) (lo : Nat) (ops : List Oper) : List Oper → St → Option (St × List Tr)
  | [], s => some (s, [])
  | o :: rest, s => match stepOp E callf lo ops o s with
    | none => none
    | some (s, tr) => match runOps E callf lo ops rest s with
      | none => none
      | some (s, trs) => some (s, tr :: trs)

def bit (m i : Nat) : Bool := Nat.beq (Nat.land (Nat.shiftRight m i) 1) 1
/-- The operations ahead of each, by the edges that always bind. acc: those of the operations before, the last one first; n: how many. -/
noncomputable def ahead1 (acc : List Nat) (n : Nat) : List Edge → Nat → (Nat → Nat)
  | [], s => fun _ => s
  | e :: r, s => fun u => if Region.binds .any e && Nat.blt e.on n && !bit s e.on then fNat (Nat.lor (Nat.lor s (Nat.pow 2 e.on)) (getR 0 acc (n - 1 - e.on))) fun s => ahead1 acc n r s u else ahead1 acc n r s u
noncomputable def aheads : List Oper → List Nat → Nat → List Nat
  | [], _, _ => []
  | o :: rest, acc, n => let a := ahead1 acc n o.after.toList 0 0; fNat a fun a => a :: fNat (n + 1) fun n => aheads rest (a :: acc) n
def namesOp (ops : List Oper) (o : Oper) : List Nat :=
  o.dst.toList ++ (o.op.operands.toList.filterMap fun | .tmp t => some t | _ => none) ++ (match o.guard with | some (j, _) => ((ops[j]?).bind (·.dst)).toList | none => [])
def clash (x y : Tr) : Bool :=
  !(Nat.beq (Nat.lor (Nat.land x.wr (Nat.lor y.rd y.wr)) (Nat.land y.wr x.rd)) 0) ||
  (!(Nat.beq (Nat.add x.all y.all) 0) &&
    ((Nat.beq x.all 2 && !(Nat.beq (Nat.add (Nat.add y.rd y.wr) y.all) 0)) || (Nat.beq y.all 2 && !(Nat.beq (Nat.add (Nat.add x.rd x.wr) x.all) 0)) ||
     (!(Nat.beq x.all 0) && !(Nat.beq y.wr 0)) || (!(Nat.beq y.all 0) && !(Nat.beq x.wr 0))))
/-- Of two operations that clash, one is ahead of the other. -/
def okPairs : List Nat → List Tr → Nat → List (Nat × Tr) → Bool
  | _, [], _, _ => true
  | as, x :: xs, i, pre =>
    match as with
    | [] => false
    | a :: as =>
      if Nat.beq (Nat.add (Nat.add x.rd x.wr) x.all) 0 then fNat (i + 1) fun i => okPairs as xs i pre
      else match pre.all fun p => bit a p.1 || !clash p.2 x with
        | true => fNat (i + 1) fun i' => okPairs as xs i' ((i, x) :: pre)
        | false => false
/-- The slots that the operations touch. -/
def slotTrs (ops : List Oper) : List Oper → List Tr
  | [] => []
  | o :: r => (fNat (bitsOf (namesOp ops o)) fun m => fNat (bitsOf o.dst.toList) fun m' => ⟨m, m', 0⟩) :: slotTrs ops r
/-- Every edge that binds leads back. -/
def okBack : List Oper → Nat → Bool
  | [], _ => true
  | o :: r, n => (o.after.toList.all fun e => !Region.binds .any e || Nat.blt e.on n) && fNat (n + 1) fun n => okBack r n

noncomputable def resultsA (P : Program) (fn : Func) (s : St) : Option AV := do
  let vs ← fn.results.toList.mapM fun
    | .tmp t => some (s.tm.get t)
    | .cell a t => match s.tm.get a with
      | .op n e i j => (s.H.get n).bind fun b => if b.ep = e ∧ b.it.isNone ∧ i < b.es.length ∧ j ≤ b.sz then partA P t ((b.es.getD i []).drop j) else none
      | _ => none
  match vs with
  | [x] => some x
  | vs => some (.tup vs)

/-- A loop over a function that is under way: the frame's slots; the loop's variables; the assignment to its left sides; its body. -/
structure LRec where
  tm : Slots
  params : List Tmp
  assign : Code
  body : Code

noncomputable def setAll {R : Type} (tm : Slots) : List (Tmp × AV) → (Slots → Option R) → Option R
  | [], k => k tm
  | (t, x) :: r, k => tm.set t x fun tm => setAll tm r k

/-- A piece of code, run: in a round of a loop over a function? the loops over functions whose yields may be called; the names below which nothing is written. -/
abbrev Run := Bool → List (Nat × LRec) → Nat → Code → St → Option (AX × St)

noncomputable def callG (E : Env) (go : Run) (ys : List (Nat × LRec)) (lo : Nat) (f : FuncId) (args : List AV) (H : AHeap) : Option (AV × AHeap) :=
  match E.P.funcs[f]? with
  | none => none
  | some fn => match fn.body with
    | none => none
    | some body => if fn.ntmps < args.length then none else fL fH args fun args => Slots.mk' fn.ntmps args fun tm =>
      match go false ys lo body ⟨tm, H⟩ with
      | some (.normal, s') | some (.ret, s') => match resultsA E.P fn s' with
        | some r => fA r fun r => some (r, s'.H)
        | none => none
      | _ => none
noncomputable def yieldG (go : Run) (ys : List (Nat × LRec)) (lo k : Nat) (args : List AV) (H : AHeap) : Option (AV × AHeap) :=
  match ys.find? fun p => p.1 == k with
  | none => none
  | some (_, r) => match H.js[k]? with
    | some .on =>
      if r.params.length = args.length then
        setAll r.tm (r.params.zip args) fun tm =>
        match go true [] lo r.assign ⟨tm, H⟩ with
        | some (.normal, s1) =>
          match go true [] lo r.body ⟨s1.tm, { s1.H with js := s1.H.js.set k .busy }⟩ with
          | some (.normal, s2) => some (.v (.bool true), { s2.H with js := s2.H.js.set k .on })
          | some (x, s2) => some (.v (.bool false), { s2.H with js := s2.H.js.set k (.jump x) })
          | none => none
        | _ => none
      else none
    | _ => none
noncomputable def callF (E : Env) (go : Run) (ys : List (Nat × LRec)) (lo : Nat) : CallF where
  call := fun y lo f args H => callG E go (if y then ys else []) lo f args H
  yield := fun k args H => yieldG go ys lo k args H

noncomputable def execF (E : Env) (go : Run) : Run := fun rd ys lo c s =>
  match c with
  | .skip | .label _ => some (.normal, s)
  | .region _ ops draw =>
    let l := ops.toList
    match runOps E (callF E go ys lo) lo l l s with
    | none => none
    | some (s', trs) =>
      if draw then
        let ah := aheads l [] 0
        if okBack l 0 && okPairs ah (slotTrs l l) 0 [] && okPairs ah trs 0 [] then some (.normal, s') else none
      else some (.normal, s')
  | .seq a b => match go rd ys lo a s with
    | none => none
    | some (.normal, s') => go rd ys lo b s'
    | some (x, s') => some (x, s')
  | .cond c a b => match aev s.tm c with
    | .v (.bool true) => go rd ys lo a s
    | .v (.bool false) => go rd ys lo b s
    | _ => none
  | .block id c => match go rd ys lo c s with
    | some (.exit id', s') => if id' = id then some (.normal, s') else some (.exit id', s')
    | r => r
  | .loop c => match go rd ys lo c s with
    | none => none
    | some (.normal, s') => go rd ys lo (.loop c) s'
    | some (x, s') => some (x, s')
  | .scope c => go rd ys lo c s
  | .exit id => some (.exit id, s)
  | .ret => some (.ret, s)
  | .rangeFunc f params assign body =>
    if rd then none else
    match aev s.tm f with
    | .fn g caps =>
      match E.pol g with
      | .eff =>
        let k := s.H.js.length
        match callG E go ((k, ⟨s.tm, params.toList, assign, body⟩) :: ys) lo g (.yl k :: caps) { s.H with js := s.H.js ++ [.on] } with
        | none => none
        | some (_, H') => match H'.js[k]? with
          | some .on => some (.normal, ⟨s.tm, { H' with js := H'.js.set k .off }⟩)
          | some (.jump x) => some (x, ⟨s.tm, { H' with js := H'.js.set k .off }⟩)
          | _ => none
      | _ => none
    | _ => none
  | _ => none

noncomputable def exec (E : Env) : Nat → Run
  | 0 => fun _ _ _ _ _ => none
  | n + 1 => execF E (exec E n)

noncomputable def acall (E : Env) (ys : List (Nat × LRec)) (n lo : Nat) (f : FuncId) (args : List AV) (H : AHeap) : Option (AV × AHeap) := callG E (exec E n) ys lo f args H

end Go.Am

namespace Go.Am

inductive FR (w : World) (av : Nat → Prop) : AV → Value → Prop
  | v {x : Value} (h : plain x = true) : FR w av (.v x) x
  | e0 (a : Addr) : FR w av .e0 (.slice (some a) 0 0)
  | sl {sz : Nat} {es : List (List AV)} (a : Addr) (b o cap : Nat) (c : Nat → Nat → Value)
      (ha : es ≠ [] → a = ⟨b, o, none⟩ ∧ 0 < sz ∧ ¬ av b) (hlen : es.length ≤ cap) (hcap : cap ≤ maxLen)
      (hsz : ∀ i, i < es.length → (es.getD i []).length = sz)
      (hc : ∀ i j, i < es.length → j < sz → w.cell? ⟨b, o + i * sz + j, none⟩ = some (c i j))
      (h1 : ∀ i j, i < es.length → j < sz → (c i j).oneCell' = true)
      (hr : ∀ i j, i < es.length → j < sz → FR w av ((es.getD i []).getD j .dead) (c i j)) :
      FR w av (.sl sz es) (.slice (some a) es.length cap)
  | fp {cs : List AV} (b o : Nat) (c : Nat → Value) (hb : ¬ av b) (hlt : b < w.heap.size)
      (hc : ∀ j, j < cs.length → w.cell? ⟨b, o + j, none⟩ = some (c j))
      (h1 : ∀ j, j < cs.length → (c j).oneCell' = true)
      (hr : ∀ j, j < cs.length → FR w av (cs.getD j .dead) (c j)) :
      FR w av (.fp cs) (.pointer (some ⟨b, o, none⟩))
  | agg {cs : List AV} (vs : Array Value) (hl : vs.size = cs.length)
      (h1 : ∀ i, i < cs.length → (vs.getD i undef).oneCell' = true)
      (hr : ∀ i, i < cs.length → FR w av (cs.getD i .dead) (vs.getD i undef)) : FR w av (.agg cs) (.agg vs)
  | tup {cs : List AV} (vs : Array Value) (hl : vs.size = cs.length)
      (hr : ∀ i, i < cs.length → FR w av (cs.getD i .dead) (vs.getD i undef)) : FR w av (.tup cs) (.tuple vs)
  | fn {cs : List AV} (f : FuncId) (vs : Array Value) (hl : vs.size = cs.length)
      (hr : ∀ i, i < cs.length → FR w av (cs.getD i .dead) (vs.getD i undef)) : FR w av (.fn f cs) (.func (.func f) #[] vs)
  | dead (x : Value) : FR w av .dead x

structure Ctx where
  w : World
  β : Nat → Nat × Nat × Nat
  get : Nat → Option Blk
  born : Nat → Prop
  X : Nat → Prop
  lp : List (Nat × Loop)   -- the loops over functions: where the record lies, what it bears
  js : List LS

/-- The blocks that frozen memory does not lie in. -/
def Ctx.av (C : Ctx) (b : Nat) : Prop := (C.X b ∨ ∃ (k : Nat) (r : Loop), C.lp[k]? = some (b, r)) ∨ ∃ n blk, C.get n = some blk ∧ (C.β n).1 = b

inductive VR (C : Ctx) : AV → Value → Prop
  | fr {x : AV} {v : Value} (h : FR C.w C.av x v) : VR C x v
  | os (n e off len : Nat) (v : Value) (hb : C.born n) (h1 : v.oneCell' = true) (he : ∀ b, C.get n = some b → e ≤ b.ep)
      (h : ∀ b, C.get n = some b → b.ep = e → ∃ a cap, v = .slice (some a) len cap ∧ off + cap = (C.β n).2.2 ∧ len ≤ cap ∧ (0 < cap → a = ⟨(C.β n).1, (C.β n).2.1 + off * b.sz, none⟩)) :
      VR C (.os n e off len) v
  | op (n e i j : Nat) (v : Value) (hb : C.born n) (h1 : v.oneCell' = true) (he : ∀ b, C.get n = some b → e ≤ b.ep)
      (h : ∀ b, C.get n = some b → b.ep = e → v = .pointer (some ⟨(C.β n).1, (C.β n).2.1 + i * b.sz + j, none⟩)) :
      VR C (.op n e i j) v
  | yl (k l : Nat) (r : Loop) (h : C.lp[k]? = some (l, r)) : VR C (.yl k) (.func (.yield l) #[] #[])
  | agg {cs : List AV} (vs : Array Value) (hl : vs.size = cs.length)
      (h1 : ∀ i, i < cs.length → (vs.getD i undef).oneCell' = true)
      (hr : ∀ i, i < cs.length → VR C (cs.getD i .dead) (vs.getD i undef)) : VR C (.agg cs) (.agg vs)
  | tup {cs : List AV} (vs : Array Value) (hl : vs.size = cs.length)
      (hr : ∀ i, i < cs.length → VR C (cs.getD i .dead) (vs.getD i undef)) : VR C (.tup cs) (.tuple vs)
  | fn {cs : List AV} (f : FuncId) (vs : Array Value) (hl : vs.size = cs.length)
      (hr : ∀ i, i < cs.length → VR C (cs.getD i .dead) (vs.getD i undef)) : VR C (.fn f cs) (.func (.func f) #[] vs)

/-- What an owned block holds. -/
def BR (C : Ctx) (n : Nat) (b : Blk) : Prop :=
  match b.it with
  | some (s, pos) => C.w.heap[(C.β n).1]? = some (.stringIter s pos) ∧ (C.β n).2.1 = 0
  | none => ∃ (cs : Array Value) (fr : Nat × Nat), C.w.heap[(C.β n).1]? = some (.cells cs b.elem fr) ∧ (∀ k, k < cs.size → ¬ (fr.1 ≤ k ∧ k < fr.2)) ∧
      cs.size = (C.β n).2.1 + (C.β n).2.2 * b.sz ∧ b.es.length ≤ (C.β n).2.2 ∧ (C.β n).2.2 ≤ maxLen ∧
      (∀ i, i < b.es.length → (b.es.getD i []).length = b.sz) ∧
      ∀ i j, i < b.es.length → j < b.sz → ∃ v, cs[(C.β n).2.1 + i * b.sz + j]? = some v ∧ v.oneCell' = true ∧ VR C ((b.es.getD i []).getD j .dead) v

/-- What the record of a loop over a function bears, by the state. -/
def LoopAt (w : World) (l : Nat) (r : Loop) : LS → Prop
  | .on => w.heap[l]? = some (.loop { r with state := .ready, pending := none })
  | .busy => w.heap[l]? = some (.loop { r with state := .busy, pending := none })
  | .jump x => w.heap[l]? = some (.loop { r with state := .done, pending := some x.code })
  | .off => l < w.heap.size

theorem LoopAt.lt {w : World} {l : Nat} {r : Loop} {s : LS} (h : LoopAt w l r s) : l < w.heap.size := by
  cases s with
  | on => exact (Array.getElem?_eq_some_iff.1 h).1
  | busy => exact (Array.getElem?_eq_some_iff.1 h).1
  | jump x => exact (Array.getElem?_eq_some_iff.1 h).1
  | off => exact h
theorem LoopAt.mono {w w' : World} {l : Nat} {r : Loop} {s : LS} (h : LoopAt w l r s) (hh : w'.heap[l]? = w.heap[l]?) (hs : w.heap.size ≤ w'.heap.size) : LoopAt w' l r s := by
  cases s with
  | on => exact hh.trans h
  | busy => exact hh.trans h
  | jump x => exact hh.trans h
  | off => exact Nat.lt_of_lt_of_le h hs

structure Good (C : Ctx) : Prop where
  blk : ∀ n b, C.get n = some b → BR C n b
  inj : ∀ n m b c, C.get n = some b → C.get m = some c → (C.β n).1 = (C.β m).1 → n = m
  notX : ∀ n b, C.get n = some b → ¬ C.X (C.β n).1
  born : ∀ n b, C.get n = some b → C.born n
  xlt : ∀ b, C.X b → b < C.w.heap.size
  lpn : C.js.length = C.lp.length
  lp : ∀ (k l : Nat) (r : Loop) (s : LS), C.lp[k]? = some (l, r) → C.js[k]? = some s → LoopAt C.w l r s
  lpX : ∀ (k l : Nat) (r : Loop), C.lp[k]? = some (l, r) → ¬ C.X l ∧ ∀ n b, C.get n = some b → (C.β n).1 ≠ l
  lpi : ∀ (k m l : Nat) (r q : Loop), C.lp[k]? = some (l, r) → C.lp[m]? = some (l, q) → k = m

theorem Good.lp_lt {C : Ctx} (g : Good C) {k l : Nat} {r : Loop} (h : C.lp[k]? = some (l, r)) : l < C.w.heap.size := by
  have hk : k < C.js.length := by rw [g.lpn]; exact (List.getElem?_eq_some_iff.1 h).1
  exact (g.lp k l r _ h (List.getElem?_eq_getElem hk)).lt

theorem Good.lt {C : Ctx} (g : Good C) {n : Nat} {b : Blk} (h : C.get n = some b) : (C.β n).1 < C.w.heap.size := by
  have := g.blk n b h
  unfold BR at this
  split at this
  · exact (Array.getElem?_eq_some_iff.1 this.1).1
  · obtain ⟨cs, fr, hh, _⟩ := this
    exact (Array.getElem?_eq_some_iff.1 hh).1

theorem Good.av_lt {C : Ctx} (g : Good C) {b : Nat} (h : C.av b) : b < C.w.heap.size := by
  rcases h with (h | ⟨k, r, h⟩) | ⟨n, blk, h, rfl⟩
  · exact g.xlt b h
  · exact g.lp_lt h
  · exact g.lt h

/-- From one context to a later one. -/
structure Le (C C' : Ctx) : Prop where
  os : C'.w.os = C.w.os
  tape : C'.w.tape = C.w.tape
  output : C'.w.output = C.w.output
  X : ∀ b, C.X b → C'.X b
  size : C.w.heap.size ≤ C'.w.heap.size
  lp : ∀ (k : Nat) x, C.lp[k]? = some x → C'.lp[k]? = some x
  xkeep : ∀ b, C.X b → C'.w.heap[b]? = C.w.heap[b]?
  keep : ∀ b, b < C.w.heap.size → ¬ C.av b → C'.w.heap[b]? = C.w.heap[b]? ∧ ¬ C'.av b
  born : ∀ n, C.born n → C'.born n
  ep : ∀ n b', C.born n → C'.get n = some b' → ∃ b, C.get n = some b ∧ b.ep ≤ b'.ep ∧ (b'.ep = b.ep → b'.sz = b.sz ∧ b'.es.length = b.es.length ∧ C'.β n = C.β n)

theorem Le.refl (C : Ctx) : Le C C :=
  ⟨rfl, rfl, rfl, fun _ h => h, Nat.le_refl _, fun _ _ h => h, fun _ _ => rfl, fun _ _ h => ⟨rfl, h⟩, fun _ h => h, fun _ b' _ h => ⟨b', h, Nat.le_refl _, fun _ => ⟨rfl, rfl, rfl⟩⟩⟩

theorem Le.trans {A B C : Ctx} (h : Le A B) (k : Le B C) : Le A C where
  os := k.os.trans h.os
  tape := k.tape.trans h.tape
  output := k.output.trans h.output
  X := fun b hb => k.X b (h.X b hb)
  size := Nat.le_trans h.size k.size
  lp := fun i x hx => k.lp i x (h.lp i x hx)
  xkeep := fun b hb => (k.xkeep b (h.X b hb)).trans (h.xkeep b hb)
  keep := fun b hb hn => by
    obtain ⟨e1, n1⟩ := h.keep b hb hn
    obtain ⟨e2, n2⟩ := k.keep b (Nat.lt_of_lt_of_le hb h.size) n1
    exact ⟨e2.trans e1, n2⟩
  born := fun n hn => k.born n (h.born n hn)
  ep := fun n b'' hn hg => by
    obtain ⟨b', g', l', e'⟩ := k.ep n b'' (h.born n hn) hg
    obtain ⟨b, g, l, e⟩ := h.ep n b' hn g'
    refine ⟨b, g, Nat.le_trans l l', fun eq => ?_⟩
    have e1 : b'.ep = b.ep := by omega
    have e2 : b''.ep = b'.ep := by omega
    obtain ⟨x1, x2, x3⟩ := e e1
    obtain ⟨y1, y2, y3⟩ := e' e2
    exact ⟨y1.trans x1, y2.trans x2, y3.trans x3⟩

theorem FR.mono {w w' : World} {av av' : Nat → Prop} (hk : ∀ b, b < w.heap.size → ¬ av b → w'.heap[b]? = w.heap[b]? ∧ ¬ av' b) (hs : w.heap.size ≤ w'.heap.size) {x : AV} {v : Value} (h : FR w av x v) : FR w' av' x v := by
  induction h with
  | v h => exact .v h
  | e0 a => exact .e0 a
  | @sl sz es a b o cap c ha hlen hcap hsz hc h1 _ ih =>
    have key : es ≠ [] → w'.heap[b]? = w.heap[b]? ∧ ¬ av' b := fun hne => by
      obtain ⟨_, hp, hav⟩ := ha hne
      have hl : 0 < es.length := List.length_pos_iff.2 hne
      exact hk b (World.block_lt_of_cell? w ⟨b, o + 0 * sz + 0, none⟩ (hc 0 0 hl hp)) hav
    refine .sl a b o cap c (fun hne => ⟨(ha hne).1, (ha hne).2.1, (key hne).2⟩) hlen hcap hsz (fun i j hi hj => ?_) h1 ih
    have hne : es ≠ [] := fun e => by subst e; simp at hi
    rw [World.cell?_of_block (w := w) (key hne).1]
    exact hc i j hi hj
  | @fp cs b o c hb hlt hc h1 _ ih =>
    obtain ⟨e, n⟩ := hk b hlt hb
    exact .fp b o c n (Nat.lt_of_lt_of_le hlt hs) (fun j hj => by rw [World.cell?_of_block (w := w) e]; exact hc j hj) h1 ih
  | agg vs hl h1 _ ih => exact .agg vs hl h1 ih
  | tup vs hl _ ih => exact .tup vs hl ih
  | fn f vs hl _ ih => exact .fn f vs hl ih
  | dead x => exact .dead x

theorem VR.mono {C C' : Ctx} (k : Le C C') {x : AV} {v : Value} (h : VR C x v) : VR C' x v := by
  induction h with
  | fr h => exact .fr (h.mono k.keep k.size)
  | os n e off len v hb h1 he h =>
    refine .os n e off len v (k.born n hb) h1 (fun b' hg => ?_) (fun b' hg hep => ?_)
    · obtain ⟨b, g, l, _⟩ := k.ep n b' hb hg
      exact Nat.le_trans (he b g) l
    · obtain ⟨b, g, l, ee⟩ := k.ep n b' hb hg
      have hle := he b g
      obtain ⟨x1, x2, x3⟩ := ee (by omega)
      obtain ⟨a, cap, hv, hc, hl, ha⟩ := h b g (by omega)
      refine ⟨a, cap, hv, by rw [x3]; exact hc, hl, fun hp => ?_⟩
      rw [x3, x1]
      exact ha hp
  | op n e i j v hb h1 he h =>
    refine .op n e i j v (k.born n hb) h1 (fun b' hg => ?_) (fun b' hg hep => ?_)
    · obtain ⟨b, g, l, _⟩ := k.ep n b' hb hg
      exact Nat.le_trans (he b g) l
    · obtain ⟨b, g, l, ee⟩ := k.ep n b' hb hg
      have hle := he b g
      obtain ⟨x1, x2, x3⟩ := ee (by omega)
      rw [h b g (by omega), x3, x1]
  | yl i l r h => exact .yl i l r (k.lp _ _ h)
  | agg vs hl h1 _ ih => exact .agg vs hl h1 ih
  | tup vs hl _ ih => exact .tup vs hl ih
  | fn f vs hl _ ih => exact .fn f vs hl ih

/-- A block that lies as it lay. -/
theorem BR.mono {C C' : Ctx} (k : Le C C') {n : Nat} {b : Blk} (h : BR C n b) (hβ : C'.β n = C.β n) (hh : C'.w.heap[(C.β n).1]? = C.w.heap[(C.β n).1]?) : BR C' n b := by
  unfold BR at h ⊢
  cases hit : b.it with
  | some sp =>
    obtain ⟨s, pos⟩ := sp
    simp only [hit] at h ⊢
    rw [hβ, hh]
    exact h
  | none =>
    simp only [hit] at h ⊢
    obtain ⟨cs, fr, h1, h2, h3, h4, h5, h6, h7⟩ := h
    refine ⟨cs, fr, by rw [hβ, hh]; exact h1, h2, by rw [hβ]; exact h3, by rw [hβ]; exact h4, by rw [hβ]; exact h5, h6, fun i j hi hj => ?_⟩
    obtain ⟨v, g1, g2, g3⟩ := h7 i j hi hj
    exact ⟨v, by rw [hβ]; exact g1, g2, g3.mono k⟩

def upd {α : Type} (f : Nat → α) (n : Nat) (x : α) (m : Nat) : α := if m = n then x else f m
theorem upd_same {α : Type} (f : Nat → α) (n : Nat) (x : α) : upd f n x n = x := by simp [upd]
theorem upd_other {α : Type} (f : Nat → α) {n m : Nat} (x : α) (h : m ≠ n) : upd f n x m = f m := by simp [upd, h]

/-- The world grows by blocks that nobody owns. -/
def Ctx.grow (C : Ctx) (w' : World) : Ctx := { C with w := w' }
theorem Ctx.grow_le {C : Ctx} (g : Good C) (w' : World) (ho : w'.os = C.w.os) (ht : w'.tape = C.w.tape) (hu : w'.output = C.w.output) (hs : C.w.heap.size ≤ w'.heap.size)
    (hk : ∀ b, b < C.w.heap.size → w'.heap[b]? = C.w.heap[b]?) : Le C (C.grow w') :=
  ⟨ho, ht, hu, fun _ h => h, hs, fun _ _ h => h, fun b hb => hk b (g.xlt b hb), fun b hb hn => ⟨hk b hb, hn⟩, fun _ h => h, fun _ b' _ h => ⟨b', h, Nat.le_refl _, fun _ => ⟨rfl, rfl, rfl⟩⟩⟩
theorem Ctx.grow_good {C : Ctx} (g : Good C) (w' : World) (ho : w'.os = C.w.os) (ht : w'.tape = C.w.tape) (hu : w'.output = C.w.output) (hs : C.w.heap.size ≤ w'.heap.size)
    (hk : ∀ b, b < C.w.heap.size → w'.heap[b]? = C.w.heap[b]?) : Good (C.grow w') where
  blk := fun n b h => (g.blk n b h).mono (Ctx.grow_le g w' ho ht hu hs hk) rfl (hk _ (g.lt h))
  inj := g.inj
  notX := g.notX
  born := g.born
  xlt := fun b hb => Nat.lt_of_lt_of_le (g.xlt b hb) hs
  lpn := g.lpn
  lp := fun k l r s h1 h2 => (g.lp k l r s h1 h2).mono (hk _ (g.lp_lt h1)) hs
  lpX := g.lpX
  lpi := g.lpi

/-- A new owned block, under a name that was never used. B: where it lies (a block that was not there). -/
def Ctx.put (C : Ctx) (w' : World) (n B o room : Nat) (b : Blk) : Ctx :=
  { C with w := w', β := upd C.β n (B, o, room), get := upd C.get n (some b), born := fun m => C.born m ∨ m = n }
theorem Ctx.put_le {C : Ctx} (g : Good C) (w' : World) (n B o room : Nat) (b : Blk) (hn : ¬ C.born n) (hB : C.w.heap.size ≤ B)
    (ho : w'.os = C.w.os) (ht : w'.tape = C.w.tape) (hu : w'.output = C.w.output) (hs : C.w.heap.size ≤ w'.heap.size)
    (hk : ∀ b, b < C.w.heap.size → w'.heap[b]? = C.w.heap[b]?) : Le C (C.put w' n B o room b) where
  os := ho
  tape := ht
  output := hu
  X := fun _ h => h
  size := hs
  lp := fun _ _ h => h
  xkeep := fun b hb => hk b (g.xlt b hb)
  keep := fun b' hb hav => by
    refine ⟨hk b' hb, ?_⟩
    rintro ((h | h) | ⟨m, blk, h1, h2⟩)
    · exact hav (.inl (.inl h))
    · exact hav (.inl (.inr h))
    · by_cases hm : m = n
      · subst hm
        simp only [Ctx.put, upd_same] at h2
        omega
      · simp only [Ctx.put, upd_other _ _ hm] at h1 h2
        exact hav (.inr ⟨m, blk, h1, h2⟩)
  born := fun m hm => .inl hm
  ep := fun m b' hm hg => by
    have hne : m ≠ n := fun e => hn (e ▸ hm)
    simp only [Ctx.put, upd_other _ _ hne] at hg
    exact ⟨b', hg, Nat.le_refl _, fun _ => ⟨rfl, rfl, by simp only [Ctx.put, upd_other _ _ hne]⟩⟩
theorem Ctx.put_good {C : Ctx} (g : Good C) (w' : World) (n B o room : Nat) (b : Blk) (hn : ¬ C.born n) (hB : C.w.heap.size ≤ B)
    (ho : w'.os = C.w.os) (ht : w'.tape = C.w.tape) (hu : w'.output = C.w.output) (hs : C.w.heap.size ≤ w'.heap.size)
    (hk : ∀ b, b < C.w.heap.size → w'.heap[b]? = C.w.heap[b]?) (hb : BR (C.put w' n B o room b) n b) : Good (C.put w' n B o room b) where
  blk := fun m c h => by
    by_cases hm : m = n
    · subst hm
      simp only [Ctx.put, upd_same, Option.some.injEq] at h
      subst h
      exact hb
    · have h' : C.get m = some c := by simpa only [Ctx.put, upd_other _ _ hm] using h
      exact (g.blk m c h').mono (Ctx.put_le g w' n B o room b hn hB ho ht hu hs hk) (by simp only [Ctx.put, upd_other _ _ hm]) (hk _ (g.lt h'))
  inj := fun m k c d h1 h2 e => by
    by_cases hm : m = n <;> by_cases hk' : k = n
    · rw [hm, hk']
    · subst hm
      simp only [Ctx.put, upd_same, upd_other _ _ hk'] at h2 e
      have := g.lt h2
      omega
    · subst hk'
      simp only [Ctx.put, upd_same, upd_other _ _ hm] at h1 e
      have := g.lt h1
      omega
    · simp only [Ctx.put, upd_other _ _ hm, upd_other _ _ hk'] at h1 h2 e
      exact g.inj m k c d h1 h2 e
  notX := fun m c h hx => by
    by_cases hm : m = n
    · subst hm
      simp only [Ctx.put, upd_same] at hx
      have := g.xlt _ hx
      omega
    · simp only [Ctx.put, upd_other _ _ hm] at h hx
      exact g.notX m c h hx
  born := fun m c h => by
    by_cases hm : m = n
    · exact .inr hm
    · simp only [Ctx.put, upd_other _ _ hm] at h
      exact .inl (g.born m c h)
  xlt := fun b hb => Nat.lt_of_lt_of_le (g.xlt b hb) hs
  lpn := g.lpn
  lp := fun k l r s h1 h2 => (g.lp k l r s h1 h2).mono (hk _ (g.lp_lt h1)) hs
  lpX := fun k l r h => ⟨(g.lpX k l r h).1, fun m c hg => by
    by_cases hm : m = n
    · subst hm
      simp only [Ctx.put, upd_same]
      have : l < C.w.heap.size := g.lp_lt h
      omega
    · simp only [Ctx.put, upd_other _ _ hm] at hg ⊢
      exact (g.lpX k l r h).2 m c hg⟩
  lpi := g.lpi

/-- An owned block is written: B is where it now lies (its own place, or a block that was not there). -/
def Ctx.wr (C : Ctx) (w' : World) (n B o room : Nat) (b : Blk) : Ctx :=
  { C with w := w', β := upd C.β n (B, o, room), get := upd C.get n (some b) }
theorem Ctx.wr_le {C : Ctx} (g : Good C) (w' : World) (n B o room : Nat) (b b0 : Blk) (h0 : C.get n = some b0) (hB : B = (C.β n).1 ∨ C.w.heap.size ≤ B)
    (hep : b0.ep ≤ b.ep) (hse : b.ep = b0.ep → b.sz = b0.sz ∧ b.es.length = b0.es.length ∧ (B, o, room) = C.β n)
    (ho : w'.os = C.w.os) (ht : w'.tape = C.w.tape) (hu : w'.output = C.w.output) (hs : C.w.heap.size ≤ w'.heap.size)
    (hk : ∀ b, b < C.w.heap.size → b ≠ (C.β n).1 → w'.heap[b]? = C.w.heap[b]?) : Le C (C.wr w' n B o room b) where
  os := ho
  tape := ht
  output := hu
  X := fun _ h => h
  size := hs
  lp := fun _ _ h => h
  xkeep := fun b hb => hk b (g.xlt b hb) (fun e => g.notX n b0 h0 (e ▸ hb))
  keep := fun b' hb hav => by
    have hne : b' ≠ (C.β n).1 := fun e => hav (.inr ⟨n, b0, h0, e.symm⟩)
    refine ⟨hk b' hb hne, ?_⟩
    rintro ((h | h) | ⟨m, blk, h1, h2⟩)
    · exact hav (.inl (.inl h))
    · exact hav (.inl (.inr h))
    · by_cases hm : m = n
      · subst hm
        simp only [Ctx.wr, upd_same] at h2
        rcases hB with hB | hB
        · exact hne (h2.symm.trans hB)
        · omega
      · simp only [Ctx.wr, upd_other _ _ hm] at h1 h2
        exact hav (.inr ⟨m, blk, h1, h2⟩)
  born := fun m hm => hm
  ep := fun m b' hm hg => by
    by_cases hne : m = n
    · subst hne
      simp only [Ctx.wr, upd_same, Option.some.injEq] at hg
      subst hg
      exact ⟨b0, h0, hep, fun e => by simp only [Ctx.wr, upd_same]; exact hse e⟩
    · simp only [Ctx.wr, upd_other _ _ hne] at hg
      exact ⟨b', hg, Nat.le_refl _, fun _ => ⟨rfl, rfl, by simp only [Ctx.wr, upd_other _ _ hne]⟩⟩
theorem Ctx.wr_good {C : Ctx} (g : Good C) (w' : World) (n B o room : Nat) (b b0 : Blk) (h0 : C.get n = some b0) (hB : B = (C.β n).1 ∨ C.w.heap.size ≤ B)
    (hep : b0.ep ≤ b.ep) (hse : b.ep = b0.ep → b.sz = b0.sz ∧ b.es.length = b0.es.length ∧ (B, o, room) = C.β n)
    (ho : w'.os = C.w.os) (ht : w'.tape = C.w.tape) (hu : w'.output = C.w.output) (hs : C.w.heap.size ≤ w'.heap.size)
    (hk : ∀ b, b < C.w.heap.size → b ≠ (C.β n).1 → w'.heap[b]? = C.w.heap[b]?) (hb : BR (C.wr w' n B o room b) n b) : Good (C.wr w' n B o room b) where
  blk := fun m c h => by
    by_cases hm : m = n
    · subst hm
      simp only [Ctx.wr, upd_same, Option.some.injEq] at h
      subst h
      exact hb
    · have h' : C.get m = some c := by simpa only [Ctx.wr, upd_other _ _ hm] using h
      exact (g.blk m c h').mono (Ctx.wr_le g w' n B o room b b0 h0 hB hep hse ho ht hu hs hk) (by simp only [Ctx.wr, upd_other _ _ hm])
        (hk _ (g.lt h') (fun e => hm (g.inj m n c b0 h' h0 e)))
  inj := fun m k c d h1 h2 e => by
    by_cases hm : m = n <;> by_cases hk' : k = n
    · rw [hm, hk']
    · subst hm
      simp only [Ctx.wr, upd_same, upd_other _ _ hk'] at h2 e
      rcases hB with hB | hB
      · exact g.inj m k b0 d h0 h2 (hB.symm.trans e)
      · have := g.lt h2
        omega
    · subst hk'
      simp only [Ctx.wr, upd_same, upd_other _ _ hm] at h1 e
      rcases hB with hB | hB
      · exact g.inj m k c b0 h1 h0 (e.trans hB)
      · have := g.lt h1
        omega
    · simp only [Ctx.wr, upd_other _ _ hm, upd_other _ _ hk'] at h1 h2 e
      exact g.inj m k c d h1 h2 e
  notX := fun m c h hx => by
    by_cases hm : m = n
    · subst hm
      simp only [Ctx.wr, upd_same] at hx
      rcases hB with hB | hB
      · exact g.notX m b0 h0 (hB ▸ hx)
      · have := g.xlt _ hx
        omega
    · simp only [Ctx.wr, upd_other _ _ hm] at h hx
      exact g.notX m c h hx
  born := fun m c h => by
    by_cases hm : m = n
    · subst hm
      exact g.born m b0 h0
    · simp only [Ctx.wr, upd_other _ _ hm] at h
      exact g.born m c h
  xlt := fun b hb => Nat.lt_of_lt_of_le (g.xlt b hb) hs
  lpn := g.lpn
  lp := fun k l r s h1 h2 => (g.lp k l r s h1 h2).mono (hk _ (g.lp_lt h1) (fun e => (g.lpX k l r h1).2 n b0 h0 e.symm)) hs
  lpX := fun k l r h => ⟨(g.lpX k l r h).1, fun m c hg => by
    by_cases hm : m = n
    · subst hm
      simp only [Ctx.wr, upd_same]
      have : l < C.w.heap.size := g.lp_lt h
      rcases hB with hB | hB
      · rw [hB]; exact (g.lpX k l r h).2 m b0 h0
      · omega
    · simp only [Ctx.wr, upd_other _ _ hm] at hg ⊢
      exact (g.lpX k l r h).2 m c hg⟩
  lpi := g.lpi

end Go.Am

namespace Go.Am

theorem VR.v_inv {C : Ctx} {a v : Value} (h : VR C (.v a) v) : v = a ∧ plain a = true := by
  cases h with | fr h => cases h with | v h => exact ⟨rfl, h⟩
theorem VR.e0_inv {C : Ctx} {v : Value} (h : VR C .e0 v) : ∃ a, v = .slice (some a) 0 0 := by
  cases h with | fr h => cases h with | e0 a => exact ⟨a, rfl⟩
theorem VR.sl_inv {C : Ctx} {sz : Nat} {es : List (List AV)} {v : Value} (h : VR C (.sl sz es) v) : FR C.w C.av (.sl sz es) v := by
  cases h with | fr h => exact h
theorem VR.fp_inv {C : Ctx} {cs : List AV} {v : Value} (h : VR C (.fp cs) v) : FR C.w C.av (.fp cs) v := by
  cases h with | fr h => exact h
theorem VR.agg_inv {C : Ctx} {cs : List AV} {v : Value} (h : VR C (.agg cs) v) :
    ∃ vs : Array Value, v = .agg vs ∧ vs.size = cs.length ∧ (∀ i, i < cs.length → (vs.getD i undef).oneCell' = true) ∧ ∀ i, i < cs.length → VR C (cs.getD i .dead) (vs.getD i undef) := by
  cases h with
  | fr h => cases h with | agg vs hl h1 hr => exact ⟨vs, rfl, hl, h1, fun i hi => .fr (hr i hi)⟩
  | agg vs hl h1 hr => exact ⟨vs, rfl, hl, h1, hr⟩
theorem VR.tup_inv {C : Ctx} {cs : List AV} {v : Value} (h : VR C (.tup cs) v) :
    ∃ vs : Array Value, v = .tuple vs ∧ vs.size = cs.length ∧ ∀ i, i < cs.length → VR C (cs.getD i .dead) (vs.getD i undef) := by
  cases h with
  | fr h => cases h with | tup vs hl hr => exact ⟨vs, rfl, hl, fun i hi => .fr (hr i hi)⟩
  | tup vs hl hr => exact ⟨vs, rfl, hl, hr⟩
theorem VR.fn_inv {C : Ctx} {cs : List AV} {f : FuncId} {v : Value} (h : VR C (.fn f cs) v) :
    ∃ vs : Array Value, v = .func (.func f) #[] vs ∧ vs.size = cs.length ∧ ∀ i, i < cs.length → VR C (cs.getD i .dead) (vs.getD i undef) := by
  cases h with
  | fr h => cases h with | fn f vs hl hr => exact ⟨vs, rfl, hl, fun i hi => .fr (hr i hi)⟩
  | fn f vs hl hr => exact ⟨vs, rfl, hl, hr⟩
theorem VR.os_inv {C : Ctx} {n e off len : Nat} {v : Value} (h : VR C (.os n e off len) v) {b : Blk} (hg : C.get n = some b) (hep : b.ep = e) :
    ∃ a cap, v = .slice (some a) len cap ∧ off + cap = (C.β n).2.2 ∧ len ≤ cap ∧ (0 < cap → a = ⟨(C.β n).1, (C.β n).2.1 + off * b.sz, none⟩) := by
  cases h with
  | fr h => cases h
  | os _ _ _ _ _ _ _ _ h => exact h b hg hep
theorem VR.op_inv {C : Ctx} {n e i j : Nat} {v : Value} (h : VR C (.op n e i j) v) {b : Blk} (hg : C.get n = some b) (hep : b.ep = e) :
    v = .pointer (some ⟨(C.β n).1, (C.β n).2.1 + i * b.sz + j, none⟩) := by
  cases h with
  | fr h => cases h
  | op _ _ _ _ _ _ _ _ h => exact h b hg hep
theorem VR.os_mk {C : Ctx} {n e off len : Nat} {v : Value} {b : Blk} (g : Good C) (hg : C.get n = some b) (hep : b.ep = e) {a : Addr} {cap : Nat} (hv : v = .slice (some a) len cap) (hc : off + cap = (C.β n).2.2) (hl : len ≤ cap)
    (ha : 0 < cap → a = ⟨(C.β n).1, (C.β n).2.1 + off * b.sz, none⟩) : VR C (.os n e off len) v := by
  subst hv
  refine .os _ _ _ _ _ (g.born n b hg) rfl (fun b' h' => ?_) fun b' h' _ => ?_
  · rw [hg] at h'
    cases h'
    omega
  · rw [hg] at h'
    cases h'
    exact ⟨a, cap, rfl, hc, hl, ha⟩
theorem VR.op_mk {C : Ctx} {n e i j : Nat} {v : Value} {b : Blk} (g : Good C) (hg : C.get n = some b) (hep : b.ep = e) (hv : v = .pointer (some ⟨(C.β n).1, (C.β n).2.1 + i * b.sz + j, none⟩)) : VR C (.op n e i j) v := by
  subst hv
  refine .op _ _ _ _ _ (g.born n b hg) rfl (fun b' h' => ?_) fun b' h' _ => ?_
  · rw [hg] at h'
    cases h'
    omega
  · rw [hg] at h'
    cases h'
    rfl

theorem plain_oneCell {x : Value} (h : plain x = true) : x.oneCell' = true := by cases x <;> simp_all [plain, Value.oneCell']

/-- A value that is neither a struct nor a tuple nor unknown takes one cell. -/
theorem VR.one {C : Ctx} {x : AV} {v : Value} (h : VR C x v) (h1 : ∀ cs, x ≠ .agg cs) (h2 : ∀ cs, x ≠ .tup cs) (h3 : x ≠ .dead) : v.oneCell' = true := by
  cases h with
  | fr h => cases h with
    | v h => exact plain_oneCell h
    | e0 a => rfl
    | sl => rfl
    | fp => rfl
    | agg => exact absurd rfl (h1 _)
    | tup => exact absurd rfl (h2 _)
    | fn => rfl
    | dead => exact absurd rfl h3
  | os _ _ _ _ _ _ h => exact h
  | op _ _ _ _ _ _ h => exact h
  | yl => rfl
  | agg => exact absurd rfl (h1 _)
  | tup => exact absurd rfl (h2 _)
  | fn => rfl

/-- Cells one by one. -/
def CR (C : Ctx) (cs : List AV) (vs : Array Value) : Prop :=
  vs.size = cs.length ∧ ∀ i, i < cs.length → (vs.getD i undef).oneCell' = true ∧ VR C (cs.getD i .dead) (vs.getD i undef)
theorem CR.mono {C C' : Ctx} (k : Le C C') {cs : List AV} {vs : Array Value} (h : CR C cs vs) : CR C' cs vs := ⟨h.1, fun i hi => ⟨(h.2 i hi).1, (h.2 i hi).2.mono k⟩⟩
theorem CR.agg {C : Ctx} {cs : List AV} {vs : Array Value} (h : CR C cs vs) : VR C (.agg cs) (.agg vs) := .agg vs h.1 (fun i hi => (h.2 i hi).1) fun i hi => (h.2 i hi).2

theorem cellsOf_rel {C : Ctx} {x : AV} {v : Value} (h : VR C x v) {cs : List AV} (hc : cellsOf x = some cs) : CR C cs v.cells := by
  have single : (∀ c, x ≠ .agg c) → (∀ c, x ≠ .tup c) → x ≠ .dead → cs = [x] → v.cells = #[v] → CR C cs v.cells := by
    intro h1 h2 h3 e1 e2
    subst e1
    rw [e2]
    refine ⟨rfl, fun i hi => ?_⟩
    have : i = 0 := by simpa using hi
    subst this
    exact ⟨h.one h1 h2 h3, h⟩
  have v1 : ∀ {v : Value}, v.oneCell' = true → v.cells = #[v] := by intro v hv; cases v <;> first | rfl | simp [Value.oneCell'] at hv
  cases x with
  | agg c =>
    simp only [cellsOf, Option.some.injEq] at hc
    subst hc
    obtain ⟨vs, rfl, hl, h1, hr⟩ := h.agg_inv
    exact ⟨hl, fun i hi => ⟨h1 i hi, hr i hi⟩⟩
  | tup c => simp [cellsOf] at hc
  | dead => simp [cellsOf] at hc
  | v a => simp only [cellsOf, Option.some.injEq] at hc; exact single (by simp) (by simp) (by simp) hc.symm (v1 (h.one (by simp) (by simp) (by simp)))
  | sl a b => simp only [cellsOf, Option.some.injEq] at hc; exact single (by simp) (by simp) (by simp) hc.symm (v1 (h.one (by simp) (by simp) (by simp)))
  | e0 => simp only [cellsOf, Option.some.injEq] at hc; exact single (by simp) (by simp) (by simp) hc.symm (v1 (h.one (by simp) (by simp) (by simp)))
  | fp a => simp only [cellsOf, Option.some.injEq] at hc; exact single (by simp) (by simp) (by simp) hc.symm (v1 (h.one (by simp) (by simp) (by simp)))
  | os a b c d => simp only [cellsOf, Option.some.injEq] at hc; exact single (by simp) (by simp) (by simp) hc.symm (v1 (h.one (by simp) (by simp) (by simp)))
  | op a b c d => simp only [cellsOf, Option.some.injEq] at hc; exact single (by simp) (by simp) (by simp) hc.symm (v1 (h.one (by simp) (by simp) (by simp)))
  | yl a => simp only [cellsOf, Option.some.injEq] at hc; exact single (by simp) (by simp) (by simp) hc.symm (v1 (h.one (by simp) (by simp) (by simp)))
  | fn a b => simp only [cellsOf, Option.some.injEq] at hc; exact single (by simp) (by simp) (by simp) hc.symm (v1 (h.one (by simp) (by simp) (by simp)))

/-- Values written over others, from a place on. -/
def overV (cs : Array Value) (o : Nat) : List Value → Array Value
  | [] => cs
  | v :: r => overV (cs.setIfInBounds o v) (o + 1) r
theorem overV_size (l : List Value) : ∀ (cs : Array Value) (o : Nat), (overV cs o l).size = cs.size := by
  induction l with
  | nil => intro cs o; rfl
  | cons v r ih => intro cs o; simp [overV, ih]
theorem overV_get (l : List Value) : ∀ (cs : Array Value) (o k : Nat), k < cs.size → (overV cs o l).getD k undef = if o ≤ k ∧ k < o + l.length then l.getD (k - o) undef else cs.getD k undef := by
  induction l with
  | nil => intro cs o k _; simp [overV]; omega
  | cons v r ih =>
    intro cs o k hk
    simp only [overV]
    rw [ih _ _ _ (by simpa using hk)]
    by_cases h1 : o + 1 ≤ k ∧ k < o + 1 + r.length
    · rw [if_pos h1, if_pos (by simp; omega)]
      rw [show k - o = (k - (o + 1)) + 1 by omega, List.getD_cons_succ]
    · rw [if_neg h1]
      by_cases h2 : k = o
      · subst h2
        rw [if_pos (by simp)]
        simp [Array.getD, hk]
      · rw [if_neg (by simp; omega)]
        simp only [Array.getD_eq_getD_getElem?, Array.getElem?_setIfInBounds]
        rw [if_neg (by omega)]

theorem getD_take {α : Type} (l : List α) (k i : Nat) (d : α) : (l.take k).getD i d = if i < k then l.getD i d else d := by
  simp only [List.getD_eq_getElem?_getD, List.getElem?_take]
  split <;> rfl
theorem getD_drop {α : Type} (l : List α) (k i : Nat) (d : α) : (l.drop k).getD i d = l.getD (k + i) d := by
  simp [List.getD_eq_getElem?_getD, List.getElem?_drop]
theorem getD_append {α : Type} (l m : List α) (i : Nat) (d : α) : (l ++ m).getD i d = if i < l.length then l.getD i d else m.getD (i - l.length) d := by
  simp only [List.getD_eq_getElem?_getD, List.getElem?_append]
  split <;> rfl
theorem setCells_length (el : List AV) (j : Nat) (cs : List AV) (h : j + cs.length ≤ el.length) : (setCells el j cs).length = el.length := by
  simp [setCells]
  omega
theorem setCells_get (el : List AV) (j : Nat) (cs : List AV) (h : j + cs.length ≤ el.length) (k : Nat) : (setCells el j cs).getD k .dead = if j ≤ k ∧ k < j + cs.length then cs.getD (k - j) .dead else el.getD k .dead := by
  unfold setCells
  rw [getD_append, getD_append, getD_take, getD_drop]
  simp only [List.length_append, List.length_take, Nat.min_eq_left (show j ≤ el.length by omega)]
  by_cases h1 : k < j
  · rw [if_pos (by omega), if_pos h1, if_pos h1, if_neg (by omega)]
  · by_cases h2 : k < j + cs.length
    · rw [if_pos h2, if_neg h1, if_pos (by omega)]
    · rw [if_neg h2, if_neg (by omega)]
      congr 1
      omega

/-- Cells over cells. -/
theorem CR.over {C : Ctx} {cs ps : List AV} {vs us : Array Value} (h : CR C cs vs) (hp : CR C ps us) (o : Nat) (ho : o + ps.length ≤ cs.length) : CR C (setCells cs o ps) (overV vs o us.toList) := by
  refine ⟨by rw [overV_size, setCells_length _ _ _ ho, h.1], fun i hi => ?_⟩
  rw [setCells_length _ _ _ ho] at hi
  rw [setCells_get _ _ _ ho, overV_get _ _ _ _ (by rw [h.1]; exact hi)]
  have hl : us.toList.length = ps.length := by simpa using hp.1
  by_cases hc : o ≤ i ∧ i < o + ps.length
  · rw [if_pos hc, if_pos (by omega)]
    have := hp.2 (i - o) (by omega)
    simpa [Array.getD_eq_getD_getElem?, List.getD_eq_getElem?_getD] using this
  · rw [if_neg hc, if_neg (by omega)]
    exact h.2 i hi

theorem CR.take {C : Ctx} {cs : List AV} {vs : Array Value} (h : CR C cs vs) (s : Nat) (hs : s ≤ cs.length) : CR C (cs.take s) (vs.extract 0 s) := by
  refine ⟨by simp [h.1, Nat.min_eq_left hs], fun i hi => ?_⟩
  have hi' : i < s := by simp at hi; omega
  have := h.2 i (by omega)
  rw [getD_take, if_pos hi']
  have e : (vs.extract 0 s).getD i undef = vs.getD i undef := by
    simp only [Array.getD_eq_getD_getElem?, Array.getElem?_extract]
    rw [if_pos (by rw [h.1]; omega)]
    simp
  rw [e]
  exact this
theorem CR.extract {C : Ctx} {cs : List AV} {vs : Array Value} (h : CR C cs vs) (o s : Nat) (hs : o + s ≤ cs.length) : CR C ((cs.drop o).take s) (vs.extract o (o + s)) := by
  refine ⟨by simp [h.1]; omega, fun i hi => ?_⟩
  have hi' : i < s := by simp at hi; omega
  have := h.2 (o + i) (by omega)
  rw [getD_take, if_pos hi', getD_drop]
  have e : (vs.extract o (o + s)).getD i undef = vs.getD (o + i) undef := by
    simp only [Array.getD_eq_getD_getElem?, Array.getElem?_extract]
    rw [if_pos (by rw [h.1]; omega)]
  rw [e]
  exact this

theorem foldl_set_eq (l : List Value) : ∀ (arr : Array Value) (off k : Nat), ((l.zipIdx k).foldl (fun cs (p : Value × Nat) => cs.setIfInBounds (off + p.2) p.1) arr) = overV arr (off + k) l := by
  induction l with
  | nil => intro arr off k; rfl
  | cons v r ih => intro arr off k; simp only [List.zipIdx_cons, List.foldl_cons, overV]; rw [ih]; rfl

/-- Operands, one by one. -/
inductive PR (C : Ctx) : List (Nat × AV) → List (Nat × Value) → Prop
  | nil : PR C [] []
  | cons {p : Nat × AV} {q : Nat × Value} {ps : List (Nat × AV)} {vs : List (Nat × Value)} (h : p.1 = q.1 ∧ VR C p.2 q.2) (t : PR C ps vs) : PR C (p :: ps) (q :: vs)

theorem fill_rel {C : Ctx} {place : Nat → Option (Nat × Nat)} {ps : List (Nat × AV)} {vs : List (Nat × Value)} (hp : PR C ps vs) :
    ∀ {cs cs' : List AV} {arr : Array Value}, CR C cs arr → fillA place cs ps = some cs' → ∃ arr', Instr.fill place arr vs = some arr' ∧ CR C cs' arr' := by
  induction hp with
  | nil =>
    intro cs cs' arr h hf
    simp only [fillA, Option.some.injEq] at hf
    subst hf
    exact ⟨arr, rfl, h⟩
  | @cons p q ps vs hpq _ ih =>
    intro cs cs' arr h hf
    obtain ⟨i, x⟩ := p
    obtain ⟨i', v⟩ := q
    obtain ⟨rfl, hv⟩ := hpq
    simp only [fillA] at hf
    cases hpl : place i with
    | none => rw [hpl] at hf; cases hf
    | some os =>
      obtain ⟨off, size⟩ := os
      rw [hpl] at hf
      simp only [Option.bind_eq_bind, Option.bind_some] at hf
      cases hcx : cellsOf x with
      | none => rw [hcx] at hf; cases hf
      | some pc =>
        rw [hcx] at hf
        simp only [Option.bind_some] at hf
        split at hf
        · rename_i hcond
          have hr : CR C pc v.cells := cellsOf_rel hv hcx
          obtain ⟨arr', h1, h2⟩ := ih (h.over hr off (by omega)) hf
          refine ⟨arr', ?_, h2⟩
          have e1 : v.cells.size = size := by have := hr.1; omega
          have e2 : ¬ (off + v.cells.size > arr.size) := by have := h.1; omega
          show Instr.fill place arr ((i, v) :: vs) = some arr'
          simp only [Instr.fill, hpl]
          rw [if_neg (by simp only [Bool.or_eq_true, decide_eq_true_eq]; omega)]
          rw [← h1]
          congr 1
          rw [← Array.foldl_toList, Array.toList_zipIdx]
          exact foldl_set_eq v.cells.toList arr off 0
        · cases hf

/-! What an operation's effect is to do. -/
def Eff.get (ef : Eff) (nm : Nat) (G : Nat → Option Blk) : Nat → Option Blk :=
  match ef with
  | .none _ => G
  | .set n b _ => upd G n (some b)
  | .new b _ => upd G nm (some b)
def Eff.born (ef : Eff) (nm : Nat) (B : Nat → Prop) : Nat → Prop :=
  match ef with
  | .new _ _ => fun m => B m ∨ m = nm
  | _ => B
def Eff.val (ef : Eff) (nm : Nat) : AV :=
  match ef with
  | .none x => x
  | .set _ _ x => x
  | .new _ x => x nm
def NextIs (r : Result Next) (v : Value) (w : World) : Prop := r = .ok (.value v) w ∨ (r = .ok .skip w ∧ v = undef)

def EffOK (P : Program) (C : Ctx) (o : Oper) (ev : Operand → Value) (ef : Eff) : Prop :=
  ∀ nm, ¬ C.born nm → ∃ C' v, Le C C' ∧ Good C' ∧ C'.get = ef.get nm C.get ∧ (C'.born, C'.lp, C'.js, C'.X) = (ef.born nm C.born, C.lp, C.js, C.X) ∧ NextIs ((execOp ev o).run P C.w) v C'.w ∧ VR C' (ef.val nm) v

theorem EffOK.same {P : Program} {C : Ctx} (g : Good C) {o : Oper} {ev : Operand → Value} {x : AV} {v : Value} (hr : (execOp ev o).run P C.w = .ok (.value v) C.w) (h : VR C x v) : EffOK P C o ev (.none x) :=
  fun _ _ => ⟨C, v, .refl C, g, rfl, rfl, .inl hr, h⟩
theorem EffOK.grow {P : Program} {C : Ctx} (g : Good C) {o : Oper} {ev : Operand → Value} {x : AV} {v : Value} {w' : World} (hr : (execOp ev o).run P C.w = .ok (.value v) w')
    (ho : w'.os = C.w.os) (ht : w'.tape = C.w.tape) (hu : w'.output = C.w.output) (hs : C.w.heap.size ≤ w'.heap.size)
    (hk : ∀ b, b < C.w.heap.size → w'.heap[b]? = C.w.heap[b]?) (h : VR C x v) : EffOK P C o ev (.none x) :=
  fun _ _ => ⟨C.grow w', v, Ctx.grow_le g w' ho ht hu hs hk, Ctx.grow_good g w' ho ht hu hs hk, rfl, rfl, .inl hr, h.mono (Ctx.grow_le g w' ho ht hu hs hk)⟩

theorem det_run {α : Type} {P : Program} {s : Sem α} {a : α} (h : det P s = some a) (w : World) : s.run P w = .ok a w := by
  induction s with
  | pure b => simp only [det, Option.some.injEq] at h; subst h; rfl
  | program k ih => exact ih P h
  | mark m k ih => exact ih h
  | _ => simp [det] at h

/-- Elements in a row of cells. -/
def ER (C : Ctx) (es : List (List AV)) (sz o : Nat) (cs : Array Value) : Prop :=
  (∀ i, i < es.length → (es.getD i []).length = sz) ∧ ∀ i j, i < es.length → j < sz → ∃ v, cs[o + i * sz + j]? = some v ∧ v.oneCell' = true ∧ VR C ((es.getD i []).getD j .dead) v
theorem ER.mono {C C' : Ctx} (k : Le C C') {es : List (List AV)} {sz o : Nat} {cs : Array Value} (h : ER C es sz o cs) : ER C' es sz o cs :=
  ⟨h.1, fun i j hi hj => let ⟨v, a, b, c⟩ := h.2 i j hi hj; ⟨v, a, b, c.mono k⟩⟩

/-- A new row of cells under a new name. -/
theorem new_row {C : Ctx} (g : Good C) (nm : Nat) (hn : ¬ C.born nm) (w' : World) (cs : Array Value) (t sz room : Nat) (fr : Nat × Nat) (es : List (List AV))
    (ho : w'.os = C.w.os) (ht : w'.tape = C.w.tape) (hu : w'.output = C.w.output) (hh : w'.heap = C.w.heap.push (.cells cs t fr)) (hfr : ∀ k, k < cs.size → ¬ (fr.1 ≤ k ∧ k < fr.2))
    (hsz : cs.size = room * sz) (hl : es.length ≤ room) (hm : room ≤ maxLen) (he : ER C es sz 0 cs) :
    let C' := C.put w' nm C.w.heap.size 0 room { elem := t, sz, ep := 0, es }
    Le C C' ∧ Good C' := by
  have hs : C.w.heap.size ≤ w'.heap.size := by rw [hh]; simp
  have hk : ∀ b, b < C.w.heap.size → w'.heap[b]? = C.w.heap[b]? := fun b hb => by rw [hh, Array.getElem?_push, if_neg (by omega)]
  have le := Ctx.put_le g w' nm C.w.heap.size 0 room { elem := t, sz, ep := 0, es } hn (Nat.le_refl _) ho ht hu hs hk
  refine ⟨le, Ctx.put_good g w' nm C.w.heap.size 0 room _ hn (Nat.le_refl _) ho ht hu hs hk ?_⟩
  simp only [BR]
  refine ⟨cs, fr, ?_, hfr, ?_, ?_, ?_, he.1, fun i j hi hj => ?_⟩
  · simp [Ctx.put, upd_same, hh]
  · simp [Ctx.put, upd_same, hsz]
  · simpa [Ctx.put, upd_same] using hl
  · simpa [Ctx.put, upd_same] using hm
  · obtain ⟨v, a, b, c⟩ := he.2 i j hi hj
    exact ⟨v, by simpa [Ctx.put, upd_same] using a, b, c.mono le⟩

end Go.Am
