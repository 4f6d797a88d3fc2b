/- Symbolic runs: what each operation comes to. -/
import Derived.Test.YtoeemmlfcnokiaaGreatAmS
import Derived.IntWalk
set_option linter.all false
set_option linter.deprecated false
namespace Go.Am

def nth {α : Type} (d : α) : List α → Nat → α
  | [], _ => d
  | a :: _, 0 => a
  | _ :: l, n + 1 => nth d l n
theorem nth_getD {α : Type} (d : α) (l : List α) (n : Nat) : nth d l n = l.getD n d := by
  induction l generalizing n with
  | nil => rfl
  | cons a l ih => cases n with
    | zero => rfl
    | succ n => simp [nth, ih]
theorem get_nth (n : Nat) (c : List (List AV)) (t : Nat) : Slots.get ⟨n, c⟩ t = nth (.tup []) (nth [] c (t / 8)) (t % 8) := by simp only [Slots.get, getR_eq, nth_getD]
theorem nth_zero {α : Type} (d a : α) (l : List α) : nth d (a :: l) 0 = a := rfl
theorem nth_succ {α : Type} (d a : α) (l : List α) (n : Nat) : nth d (a :: l) (n + 1) = nth d l n := rfl

theorem aev_tmp (tm : Slots) (t : Nat) : aev tm (.tmp t) = tm.get t := rfl
theorem aev_int (tm : Slots) (k : IntKind) (n : Int) : aev tm (.const (.int k n)) = .v (.int k n) := rfl
theorem aev_bool (tm : Slots) (b : Bool) : aev tm (.const (.bool b)) = .v (.bool b) := rfl
theorem aev_str (tm : Slots) (s : ByteArray) : aev tm (.const (.string s)) = .v (.string s) := rfl
theorem aev_nilS (tm : Slots) : aev tm (.const (.slice none 0 0)) = .v (.slice none 0 0) := rfl
theorem aev_nilP (tm : Slots) : aev tm (.const (.pointer none)) = .v (.pointer none) := rfl
theorem aev_nilF (tm : Slots) : aev tm (.const .nilFunc) = .v .nilFunc := rfl
theorem aev_func (tm : Slots) (f : FuncId) : aev tm (.func f) = .fn f [] := rfl
theorem aev_agg (tm : Slots) (cs : Array Value) : aev tm (.const (.agg cs)) = ofVal (.agg cs) := rfl

/-! Heaps. -/
theorem look_putB (l : List (Nat × Blk)) (n m : Nat) (b : Blk) : look (putB l n b) m = if n = m then some b else look l m := by
  induction l with
  | nil => simp [putB, look]
  | cons x l ih =>
    obtain ⟨k, c⟩ := x
    simp only [putB]
    by_cases h : k = n
    · subst h; simp only [if_true, look]; split <;> rfl
    · rw [if_neg h]; simp only [look, ih]
      by_cases h2 : k = m
      · subst h2; rw [if_pos rfl, if_neg (Ne.symm h), if_pos rfl]
      · simp only [if_neg h2]
theorem get_push (H : AHeap) (b : Blk) (n : Nat) : (H.push b).get n = if H.next = n then some b else H.get n := rfl
theorem get_set (H : AHeap) (b : Blk) (n m : Nat) : (H.set n b).get m = if n = m then some b else H.get m := look_putB _ _ _ _
theorem get_empty (n : Nat) : AHeap.empty.get n = none := rfl
theorem next_push (H : AHeap) (b : Blk) : (H.push b).next = H.next + 1 := rfl
theorem next_set (H : AHeap) (b : Blk) (n : Nat) : (H.set n b).next = H.next := rfl
theorem next_empty : AHeap.empty.next = 0 := rfl
theorem js_push (H : AHeap) (b : Blk) : (H.push b).js = H.js := rfl
theorem js_set (H : AHeap) (b : Blk) (n : Nat) : (H.set n b).js = H.js := rfl
theorem set_push (H : AHeap) (b b' : Blk) (n : Nat) : (H.push b).set n b' = if H.next = n then H.push b' else (H.set n b').push b := by
  simp only [AHeap.set, AHeap.push, putB]
  split <;> rename_i h
  · subst h; rfl
  · rfl
theorem putB_putB (l : List (Nat × Blk)) (n : Nat) (b b' : Blk) : putB (putB l n b) n b' = putB l n b' := by
  induction l with
  | nil => simp [putB]
  | cons x l ih =>
    obtain ⟨k, c⟩ := x
    simp only [putB]
    by_cases h : k = n
    · simp [h, putB]
    · simp [h, putB, ih]
theorem set_set (H : AHeap) (b b' : Blk) (n : Nat) : (H.set n b).set n b' = H.set n b' := by simp only [AHeap.set, putB_putB]

/-! Plans. -/
theorem primL_val (lo : Nat) (H : AHeap) (x : AV) : primL lo H (.val x) = some (x, H, ⟨0, 0, 0⟩) := rfl
theorem primL_opt (lo : Nat) (H : AHeap) (x : AV) : primL lo H (.opt (some x)) = some (x, H, ⟨0, 0, 0⟩) := rfl
theorem primL_prim0 (lo : Nat) (H : AHeap) (k : List Blk → Option Eff) : primL lo H (.prim [] k) = (k []).bind (effL lo H []) := rfl
theorem primL_prim1 (lo : Nat) (H : AHeap) (n : Nat) (k : List Blk → Option Eff) : primL lo H (.prim [n] k) = (H.get n).bind fun b => (k [b]).bind (effL lo H [n]) := by
  simp only [primL, getAll]
  cases H.get n <;> rfl
theorem primL_prim2 (lo : Nat) (H : AHeap) (n m : Nat) (k : List Blk → Option Eff) : primL lo H (.prim [n, m] k) = (H.get n).bind fun b => (H.get m).bind fun c => (k [b, c]).bind (effL lo H [n, m]) := by
  simp only [primL, getAll]
  cases H.get n <;> cases H.get m <;> rfl
theorem effL_none (lo : Nat) (H : AHeap) (rd : List Nat) (x : AV) : effL lo H rd (.none x) = some (x, H, ⟨bitsOf rd, 0, 0⟩) := rfl
theorem effL_set0 (H : AHeap) (n : Nat) (b : Blk) (x : AV) : effL 0 H [n] (.set n b x) = some (x, H.set n b, ⟨bitsOf [n], 2 ^ n, 0⟩) := by simp [effL]
theorem effL_set0' (H : AHeap) (n m : Nat) (b : Blk) (x : AV) : effL 0 H [n, m] (.set n b x) = some (x, H.set n b, ⟨bitsOf [n, m], 2 ^ n, 0⟩) := by simp [effL]
theorem effL_set (lo : Nat) (H : AHeap) (n : Nat) (b : Blk) (x : AV) : effL lo H [n] (.set n b x) = if lo ≤ n then some (x, H.set n b, ⟨bitsOf [n], 2 ^ n, 0⟩) else none := by simp [effL]
theorem effL_set' (lo : Nat) (H : AHeap) (n m : Nat) (b : Blk) (x : AV) : effL lo H [n, m] (.set n b x) = if lo ≤ n then some (x, H.set n b, ⟨bitsOf [n, m], 2 ^ n, 0⟩) else none := by simp [effL]
theorem effL_new (lo : Nat) (H : AHeap) (rd : List Nat) (b : Blk) (x : Nat → AV) : effL lo H rd (.new b x) = some (x H.next, H.push b, ⟨bitsOf rd, 2 ^ H.next, 0⟩) := rfl
theorem primL_live (lo : Nat) (H : AHeap) (n e : Nat) (x : AV) : primL lo H (live n e x) = (H.get n).bind fun b => if b.ep = e then some (x, H, ⟨bitsOf [n], 0, 0⟩) else none := by
  simp only [live, primL_prim1]
  cases H.get n with
  | none => rfl
  | some b => simp only [Option.bind_some]; split <;> rfl

section
variable (E : Env) (d : Option Tmp) (ty : TypeId) (pos : String) (af : Array Edge) (g : Option (Nat × Bool)) (ρ : Operand → AV)
theorem plan_move (x : Operand) : plan E ⟨d, .move x, ty, pos, af, g⟩ ρ = .val (ρ x) := rfl
theorem plan_assign (x : Operand) : plan E ⟨d, .assign x, ty, pos, af, g⟩ ρ = .val (ρ x) := rfl
def pickA (c a b : AV) : Plan := match c with
  | .v (.bool t) => .val (if t then a else b)
  | _ => .bad
theorem plan_pick (c a b : Operand) : plan E ⟨d, .pick c a b, ty, pos, af, g⟩ ρ = pickA (ρ c) (ρ a) (ρ b) := rfl
theorem pickA_v (t : Bool) (a b : AV) : pickA (.v (.bool t)) a b = .val (bif t then a else b) := by cases t <;> rfl
theorem plan_alloc (t : TypeId) : plan E ⟨d, .alloc t, ty, pos, af, g⟩ ρ = match zeroCells E.P t with
    | some z => .prim [] fun _ => some (.new { elem := t, sz := z.length, ep := 0, es := [z] } fun n => .op n 0 0 0)
    | none => .bad := rfl
theorem plan_box (t : TypeId) (x : Operand) : plan E ⟨d, .box t x, ty, pos, af, g⟩ ρ = match cellsOf (ρ x) with
    | some cs => .prim [] fun _ => some (.new { elem := t, sz := cs.length, ep := 0, es := [cs] } fun n => .op n 0 0 0)
    | none => .bad := rfl
def buildInfo (P : Program) (t : TypeId) : Option (List AV × List (Nat × Nat)) := match zeroCells P t, P.underlying t with
  | some z, some (.struct fields) => (placesA P fields.toList).map fun ps => (z, ps)
  | _, _ => none
def arrInfo (P : Program) (t : TypeId) : Option (List AV × Nat) := match zeroCells P t, P.underlying t with
  | some z, some (.array _ elem) => (infoSize P elem).map fun s => (z, s)
  | _, _ => none
theorem plan_build (t : TypeId) (parts : Array (Nat × Operand)) : plan E ⟨d, .build t parts, ty, pos, af, g⟩ ρ = match buildInfo E.P t with
    | some (z, ps) => .opt ((fillA (fun i => ps[i]?) z (parts.toList.map fun p => (p.1, ρ p.2))).map .agg)
    | none => match arrInfo E.P t with
      | some (z, size) => .opt ((fillA (fun i => some (i * size, size)) z (parts.toList.map fun p => (p.1, ρ p.2))).map .agg)
      | none => .bad := by
  simp only [plan, buildInfo, arrInfo]
  cases zeroCells E.P t with
  | none => rfl
  | some z =>
    cases E.P.underlying t with
    | none => rfl
    | some u =>
      cases u with
      | struct fields =>
        dsimp only
        cases placesA E.P fields.toList with
        | none => rfl
        | some ps => rfl
      | array n e =>
        dsimp only
        cases infoSize E.P e with
        | none => rfl
        | some s => rfl
      | _ => rfl
theorem fillA_nil (place : Nat → Option (Nat × Nat)) (cells : List AV) : fillA place cells [] = some cells := rfl
theorem fillA_cons (place : Nat → Option (Nat × Nat)) (cells : List AV) (i : Nat) (x : AV) (r : List (Nat × AV)) : fillA place cells ((i, x) :: r) = (place i).bind fun p => (cellsOf x).bind fun cs => if cs.length = p.2 ∧ p.1 + p.2 ≤ cells.length then fillA place (setCells cells p.1 cs) r else none := rfl
theorem fillE_nil (size : Nat) (es : List (List AV)) : fillE size es [] = some es := rfl
theorem fillE_cons (size : Nat) (es : List (List AV)) (i : Nat) (x : AV) (r : List (Nat × AV)) : fillE size es ((i, x) :: r) = (cellsOf x).bind fun cs => if cs.length = size ∧ i < es.length then fillE size (es.set i cs) r else none := rfl
def sliceInfo (P : Program) (t : TypeId) : Option (TypeId × Nat × List AV) := match P.underlying t with
  | some (.slice elem) => match infoSize P elem, zeroCells P elem with
    | some size, some z => if size = 0 ∨ z.length ≠ size then none else some (elem, size, z)
    | _, _ => none
  | _ => none
theorem plan_buildSlice (t : TypeId) (len : Nat) (parts : Array (Nat × Operand)) : plan E ⟨d, .buildSlice t len parts, ty, pos, af, g⟩ ρ = match sliceInfo E.P t with
    | some (elem, size, z) => if len * size ≤ 2 ^ 24 then .prim [] fun _ => (fillE size (List.replicate len z) (parts.toList.map fun p => (p.1, ρ p.2))).map fun es => if len = 0 then .none .e0 else .new { elem, sz := size, ep := 0, es } fun n => .os n 0 0 len else .bad
    | none => .bad := by
  simp only [plan, sliceInfo]
  cases E.P.underlying t with
  | none => rfl
  | some u =>
    cases u with
    | slice e =>
      dsimp only
      cases infoSize E.P e with
      | none => rfl
      | some size =>
        cases zeroCells E.P e with
        | none => rfl
        | some z =>
          dsimp only
          by_cases h1 : size = 0 ∨ z.length ≠ size
          · rw [if_pos h1, if_pos (.inr h1)]
          · rw [if_neg h1]
            dsimp only
            by_cases h2 : len * size ≤ 2 ^ 24
            · rw [if_pos h2, if_neg (by rintro (h | h)
                                        · omega
                                        · exact h1 h)]
            · rw [if_neg h2, if_pos (.inl (by omega))]
    | _ => rfl
def slSz (P : Program) (t : TypeId) : Option Nat := (sliceInfo P t).map (·.2.1)
def loadA (E : Env) (t : TypeId) (a : AV) : Plan := match a with
    | .fp cs => .opt (partA E.P t cs)
    | .op n e i j => .prim [n] fun
      | [b] => if b.ep = e ∧ b.it.isNone ∧ i < b.es.length ∧ j ≤ b.sz then (partA E.P t ((b.es.getD i []).drop j)).map .none else none
      | _ => none
    | _ => .bad
theorem plan_load (t : TypeId) (a : Operand) : plan E ⟨d, .load t a, ty, pos, af, g⟩ ρ = loadA E t (ρ a) := rfl
theorem loadA_fp (t : TypeId) (cs : List AV) : loadA E t (.fp cs) = .opt (partA E.P t cs) := rfl
theorem loadA_op (lo : Nat) (H : AHeap) (t : TypeId) (n e i j : Nat) : primL lo H (loadA E t (.op n e i j)) = (H.get n).bind fun b => if b.ep = e ∧ b.it.isNone = true ∧ i < b.es.length ∧ j ≤ b.sz then (partA E.P t ((nth [] b.es i).drop j)).map (fun x => (x, H, ⟨bitsOf [n], 0, 0⟩)) else none := by
  simp only [loadA, primL_prim1, nth_getD]
  cases H.get n with
  | none => rfl
  | some b =>
    simp only [Option.bind_some]
    split
    · cases partA E.P t ((b.es.getD i []).drop j) <;> rfl
    · rfl
def storeA (E : Env) (t : TypeId) (a x : AV) : Plan := match a, cellsOf x, infoSize E.P t with
    | .op n e i j, some cs, some s => .prim [n] fun
      | [b] => if b.ep = e ∧ b.it.isNone ∧ i < b.es.length ∧ cs.length = s ∧ j + s ≤ b.sz then some (.set n { b with es := b.es.set i (setCells (b.es.getD i []) j cs) } (.tup [])) else none
      | _ => none
    | _, _, _ => .bad
theorem plan_store (t : TypeId) (a x : Operand) : plan E ⟨d, .store t a x, ty, pos, af, g⟩ ρ = storeA E t (ρ a) (ρ x) := rfl
theorem storeA_op (lo : Nat) (H : AHeap) (t : TypeId) (n e i j : Nat) (x : AV) : primL lo H (storeA E t (.op n e i j) x) = (cellsOf x).bind fun cs => (infoSize E.P t).bind fun s => (H.get n).bind fun b => if (b.ep = e ∧ b.it.isNone = true ∧ i < b.es.length ∧ cs.length = s ∧ j + s ≤ b.sz) ∧ lo ≤ n then some (.tup [], H.set n ⟨b.elem, b.sz, b.ep, b.es.set i (setCells (nth [] b.es i) j cs), b.it⟩, ⟨bitsOf [n], 2 ^ n, 0⟩) else none := by
  simp only [storeA]
  cases cellsOf x with
  | none => rfl
  | some cs =>
  cases infoSize E.P t with
  | none => rfl
  | some s =>
  simp only [primL_prim1, nth_getD, Option.bind_some]
  cases H.get n with
  | none => rfl
  | some b =>
    simp only [Option.bind_some]
    by_cases hc : b.ep = e ∧ b.it.isNone = true ∧ i < b.es.length ∧ cs.length = s ∧ j + s ≤ b.sz
    · rw [if_pos hc]; simp only [Option.bind_some, effL_set, hc, true_and]
    · rw [if_neg hc, if_neg (fun h => hc h.1)]; rfl
theorem plan_nilCheck (x : Operand) : plan E ⟨d, .nilCheck x, ty, pos, af, g⟩ ρ = match ρ x with
    | .fp cs => .val (.fp cs)
    | .op n e i j => live n e (.op n e i j)
    | _ => .bad := rfl
theorem plan_binOp (op : BinOp) (t : TypeId) (x y : Operand) (yt : TypeId) : plan E ⟨d, .binOp op t x y yt, ty, pos, af, g⟩ ρ = binOpA E op t x y (ρ x) (ρ y) := rfl
theorem plan_unOp (op : UnOp) (t : TypeId) (x : Operand) : plan E ⟨d, .unOp op t x, ty, pos, af, g⟩ ρ = match ρ x with
    | .v a => .opt (plainV (det E.P (Op.unary op a)))
    | _ => .bad := rfl
theorem plan_convert (src dst : TypeId) (x : Operand) : plan E ⟨d, .convert src dst x, ty, pos, af, g⟩ ρ = convA E src dst (ρ x) := rfl
theorem plan_makeFunc (fn : Fn) (first caps : Array Operand) : plan E ⟨d, .makeFunc fn first caps, ty, pos, af, g⟩ ρ = match fn, first.toList with
    | .func f, [] => match (caps.toList.map ρ).mapM cellsOf with
      | some _ => .val (.fn f (caps.toList.map ρ))
      | none => .bad
    | _, _ => .bad := rfl
def makeSliceA (E : Env) (t : TypeId) (l c : AV) : Plan := match E.P.underlying t, l, c with
    | some (.slice elem), .v (.int _ l), .v (.int _ c) => match infoSize E.P elem, infoBytes E.P elem, zeroCells E.P elem with
      | some size, some bytes, some z =>
        if 0 ≤ l ∧ l ≤ c ∧ bytes * c ≤ roomMax ∧ 0 < bytes ∧ 0 < size ∧ z.length = size then
          .prim [] fun _ => some (.new { elem, sz := size, ep := 0, es := List.replicate l.toNat z } fun n => .os n 0 0 l.toNat)
        else .bad
      | _, _, _ => .bad
    | _, _, _ => .bad
theorem plan_makeSlice (t : TypeId) (l c : Operand) : plan E ⟨d, .makeSlice t l c, ty, pos, af, g⟩ ρ = makeSliceA E t (ρ l) (ρ c) := rfl
theorem plan_slice (t : TypeId) (x : Operand) (lo hi mx : Option Operand) : plan E ⟨d, .slice t x lo hi mx, ty, pos, af, g⟩ ρ = sliceA E t (ρ x) (lo.map ρ) (hi.map ρ) (mx.map ρ) := rfl
def fieldOff (P : Program) (s f : Nat) : Option Nat := match fieldAt? P s f with
  | some (off, ft) => match infoSize P ft with
    | some (_ + 1) => some off
    | _ => none
  | none => none
theorem plan_fieldAddr_op (s f : Nat) (x : Operand) {off n e i j : Nat} (h : fieldOff E.P s f = some off) (hx : ρ x = .op n e i j) : plan E ⟨d, .fieldAddr s x f, ty, pos, af, g⟩ ρ = live n e (.op n e i (j + off)) := by
  unfold fieldOff at h
  simp only [plan]
  split at h
  · rename_i o ft h1
    split at h
    · rename_i k h2
      simp only [Option.some.injEq] at h
      subst h
      simp only [h1, h2, hx]
    · cases h
  · cases h
theorem plan_fieldAddr_fp (s f : Nat) (x : Operand) {off : Nat} {cs : List AV} (h : fieldOff E.P s f = some off) (hx : ρ x = .fp cs) : plan E ⟨d, .fieldAddr s x f, ty, pos, af, g⟩ ρ = .val (.fp (cs.drop off)) := by
  unfold fieldOff at h
  simp only [plan]
  split at h
  · rename_i o ft h1
    split at h
    · rename_i k h2
      simp only [Option.some.injEq] at h
      subst h
      simp only [h1, h2, hx]
    · cases h
  · cases h
def fieldAddrA (E : Env) (s f : Nat) (x : AV) : Plan := match fieldOff E.P s f, x with
  | some off, .op n e i j => live n e (.op n e i (j + off))
  | some off, .fp cs => .val (.fp (cs.drop off))
  | _, _ => .bad
theorem plan_fieldAddr (s f : Nat) (x : Operand) : plan E ⟨d, .fieldAddr s x f, ty, pos, af, g⟩ ρ = fieldAddrA E s f (ρ x) := by
  simp only [plan, fieldAddrA, fieldOff]
  cases h1 : fieldAt? E.P s f with
  | none => rfl
  | some q =>
    obtain ⟨o, ft⟩ := q
    dsimp only
    cases h2 : infoSize E.P ft with
    | none => simp only [h2]
    | some k => cases k with
      | zero => simp only [h2]
      | succ k => cases hx : ρ x <;> simp only [h2, hx]
def fieldA (E : Env) (s f : Nat) (x : AV) : Plan := match fieldAt? E.P s f, x with
    | some (off, ft), .agg cs => .opt (partA E.P ft (cs.drop off))
    | _, _ => .bad
theorem plan_field (s f : Nat) (x : Operand) : plan E ⟨d, .field s x f, ty, pos, af, g⟩ ρ = fieldA E s f (ρ x) := rfl
def indexAddrA (E : Env) (t : TypeId) (x ix : AV) : Plan := match E.P.underlying t, ix with
    | some (.slice elem), .v (.int _ i) => match infoSize E.P elem, x with
      | some size, .sl sz es => if 0 ≤ i ∧ i < es.length ∧ sz = size then .val (.fp (es.getD i.toNat [])) else .bad
      | some size, .os n e off len => .prim [n] fun
        | [b] => if b.ep = e ∧ b.it.isNone ∧ off + len ≤ b.es.length ∧ b.sz = size ∧ 0 ≤ i ∧ i < len then some (.none (.op n e (off + i.toNat) 0)) else none
        | _ => none
      | _, _ => .bad
    | some (.array len elem), .v (.int _ i) => match infoSize E.P elem, x with
      | some size, .fp cs => if 0 ≤ i ∧ i < len then .val (.fp (cs.drop (i.toNat * size))) else .bad
      | some size, .op n e i' j => if 0 ≤ i ∧ i < len then live n e (.op n e i' (j + i.toNat * size)) else .bad
      | _, _ => .bad
    | _, _ => .bad
theorem plan_indexAddr (t : TypeId) (x ix : Operand) : plan E ⟨d, .indexAddr t x ix, ty, pos, af, g⟩ ρ = indexAddrA E t (ρ x) (ρ ix) := rfl
theorem slSz_ok {P : Program} {t : TypeId} {s : Nat} (h : slSz P t = some s) : ∃ e, P.underlying t = some (.slice e) ∧ infoSize P e = some s := by
  unfold slSz sliceInfo at h
  split at h
  · rename_i e h1
    split at h
    · rename_i s' z h2 h3
      split at h
      · cases h
      · simp only [Option.map_some, Option.some.injEq] at h; subst h; exact ⟨e, h1, h2⟩
    · cases h
  · cases h
theorem indexAddrA_sl (lo : Nat) (H : AHeap) (t : TypeId) (sz : Nat) (es : List (List AV)) (κ : IntKind) (i : Int) {size : Nat} (h : slSz E.P t = some size) : primL lo H (indexAddrA E t (.sl sz es) (.v (.int κ i))) = if 0 ≤ i ∧ i < es.length ∧ sz = size then some (.fp (nth [] es i.toNat), H, ⟨0, 0, 0⟩) else none := by
  obtain ⟨e, h1, h2⟩ := slSz_ok h
  simp only [indexAddrA, nth_getD, h1, h2]
  split <;> rfl
theorem indexAddrA_os (lo : Nat) (H : AHeap) (t : TypeId) (n e off len : Nat) (κ : IntKind) (i : Int) {size : Nat} (h : slSz E.P t = some size) : primL lo H (indexAddrA E t (.os n e off len) (.v (.int κ i))) = (H.get n).bind fun b => if b.ep = e ∧ b.it.isNone = true ∧ off + len ≤ b.es.length ∧ b.sz = size ∧ 0 ≤ i ∧ i < len then some (.op n e (off + i.toNat) 0, H, ⟨bitsOf [n], 0, 0⟩) else none := by
  obtain ⟨e, h1, h2⟩ := slSz_ok h
  simp only [indexAddrA, h1, h2, primL_prim1]
  cases H.get n with
  | none => rfl
  | some b => simp only [Option.bind_some]; split <;> rfl
/-- The same, for a slice of the operation's own size. -/
theorem index_os (lo : Nat) (H : AHeap) (t : TypeId) (n e off len : Nat) (κ : IntKind) (i : Int) (h : (slSz E.P t).isSome = true) : primL lo H (indexAddrA E t (.os n e off len) (.v (.int κ i))) = (H.get n).bind fun b => if b.ep = e ∧ b.it.isNone = true ∧ off + len ≤ b.es.length ∧ some b.sz = slSz E.P t ∧ 0 ≤ i ∧ i < len then some (.op n e (off + i.toNat) 0, H, ⟨bitsOf [n], 0, 0⟩) else none := by
  obtain ⟨s, hs⟩ := Option.isSome_iff_exists.1 h
  rw [indexAddrA_os E lo H t n e off len κ i hs, hs]
  simp only [Option.some.injEq]
def indexA (E : Env) (t : TypeId) (x ix : AV) : Plan := match E.P.underlying t, x, ix with
    | some .string, .v (.string s), .v (.int _ i) => if 0 ≤ i then (match s.data.toList[i.toNat]? with | some b => .val (.v (.int .u8 b.toNat)) | none => .bad) else .bad
    | some (.array len elem), .agg cs, .v (.int _ i) => match infoSize E.P elem with
      | some size => if 0 ≤ i ∧ i < len then .opt (partA E.P elem (cs.drop (i.toNat * size))) else .bad
      | none => .bad
    | _, _, _ => .bad
theorem plan_index (t : TypeId) (x ix : Operand) : plan E ⟨d, .index t x ix, ty, pos, af, g⟩ ρ = indexA E t (ρ x) (ρ ix) := rfl
theorem plan_extract (t : Operand) (k : Nat) : plan E ⟨d, .extract t k, ty, pos, af, g⟩ ρ = match ρ t with
    | .tup vs => .opt (vs[k]?)
    | _ => .bad := rfl
theorem plan_builtin (b : Builtin) (args : Array Operand) (ats : Array TypeId) : plan E ⟨d, .call ⟨.builtin b, args, ats⟩, ty, pos, af, g⟩ ρ = builtinA E b ats ty (args.toList.map ρ) := rfl
def callA (f : AV) (args : List AV) : Plan := match f with
      | .fn f caps => .call f (args ++ caps)
      | .yl k => .yield k args
      | _ => .bad
theorem plan_call (f : Operand) (args : Array Operand) (ats : Array TypeId) : plan E ⟨d, .call ⟨.value f, args, ats⟩, ty, pos, af, g⟩ ρ = callA (ρ f) (args.toList.map ρ) := rfl
theorem callA_fn (f : FuncId) (caps args : List AV) : callA (.fn f caps) args = .call f (args ++ caps) := rfl

/-! Numbers, bools, strings. -/
theorem bin_lss (t : TypeId) (xo yo : Operand) (k : IntKind) (a b : Int) : binOpA E .lss t xo yo (.v (.int k a)) (.v (.int k b)) = .val (.v (.bool (decide (a < b)))) := by cases k <;> rfl
theorem bin_leq (t : TypeId) (xo yo : Operand) (k : IntKind) (a b : Int) : binOpA E .leq t xo yo (.v (.int k a)) (.v (.int k b)) = .val (.v (.bool (decide (a ≤ b)))) := by cases k <;> rfl
theorem bin_gtr (t : TypeId) (xo yo : Operand) (k : IntKind) (a b : Int) : binOpA E .gtr t xo yo (.v (.int k a)) (.v (.int k b)) = .val (.v (.bool (decide (b < a)))) := by cases k <;> rfl
theorem bin_geq (t : TypeId) (xo yo : Operand) (k : IntKind) (a b : Int) : binOpA E .geq t xo yo (.v (.int k a)) (.v (.int k b)) = .val (.v (.bool (decide (b ≤ a)))) := by cases k <;> rfl
theorem bin_eql (t : TypeId) (xo yo : Operand) (k : IntKind) (a b : Int) : binOpA E .eql t xo yo (.v (.int k a)) (.v (.int k b)) = .val (.v (.bool (decide (a = b)))) := by
  have h : (a == b) = decide (a = b) := by by_cases h : a = b <;> simp [h]
  rw [← h]; cases k <;> rfl
theorem bin_neq (t : TypeId) (xo yo : Operand) (k : IntKind) (a b : Int) : binOpA E .neq t xo yo (.v (.int k a)) (.v (.int k b)) = .val (.v (.bool (!decide (a = b)))) := by
  have h : (a != b) = !decide (a = b) := by by_cases h : a = b <;> simp [h]
  rw [← h]; cases k <;> rfl
theorem bin_add (t : TypeId) (xo yo : Operand) (k : IntKind) (a b : Int) : binOpA E .add t xo yo (.v (.int k a)) (.v (.int k b)) = .val (.v (.int k (k.wrap (a + b)))) := by cases k <;> rfl
theorem bin_sub (t : TypeId) (xo yo : Operand) (k : IntKind) (a b : Int) : binOpA E .sub t xo yo (.v (.int k a)) (.v (.int k b)) = .val (.v (.int k (k.wrap (a - b)))) := by cases k <;> rfl
theorem bin_mul (t : TypeId) (xo yo : Operand) (k : IntKind) (a b : Int) : binOpA E .mul t xo yo (.v (.int k a)) (.v (.int k b)) = .val (.v (.int k (k.wrap (a * b)))) := by cases k <;> rfl
theorem bin_quo (t : TypeId) (xo yo : Operand) (k : IntKind) (a b : Int) (hb : b ≠ 0) : binOpA E .quo t xo yo (.v (.int k a)) (.v (.int k b)) = .val (.v (.int k (k.wrap (a.tdiv b)))) := by
  have : det E.P (Op.intDiv .quo k a b) = some (.int k (k.wrap (a.tdiv b))) := by simp only [Op.intDiv, if_neg hb]; rfl
  have h2 : det E.P (do eqGuard .quo t xo yo (.int k a) (.int k b); binOp .quo t (.int k a) (.int k b)) = det E.P (Op.intDiv .quo k a b) := by cases k <;> rfl
  simp only [binOpA, h2, this]; rfl
theorem bin_rem (t : TypeId) (xo yo : Operand) (k : IntKind) (a b : Int) (hb : b ≠ 0) : binOpA E .rem t xo yo (.v (.int k a)) (.v (.int k b)) = .val (.v (.int k (a.tmod b))) := by
  have : det E.P (Op.intDiv .rem k a b) = some (.int k (a.tmod b)) := by simp only [Op.intDiv, if_neg hb]; rfl
  have h2 : det E.P (do eqGuard .rem t xo yo (.int k a) (.int k b); binOp .rem t (.int k a) (.int k b)) = det E.P (Op.intDiv .rem k a b) := by cases k <;> rfl
  simp only [binOpA, h2, this]; rfl
theorem det_underlying {α : Type} {P : Program} {t : TypeId} {u : TypeDesc} (h : P.underlying t = some u) (k : TypeDesc → Sem α) : det P (underlying t >>= k) = det P (k u) := by
  simp only [underlying, program, bind, Sem.bind, det]
  rw [h]; rfl
theorem det_equal {t : TypeId} {u : TypeDesc} {x y : Value} {r : Bool} (h : E.P.underlying t = some u) (hr : ∀ d, det E.P (Op.equalIn (d + 1) t x y) = some r) : det E.P (Op.equal t x y) = some r := hr 9999
theorem det_map {P : Program} {s : Sem Bool} {r : Bool} (f : Bool → Value) (h : det P s = some r) : det P (s >>= fun b => pure (f b)) = some (f r) := by
  induction s with
  | pure b => simp only [det, Option.some.injEq] at h; subst h; rfl
  | program k ih => exact ih P h
  | mark m k ih => exact ih h
  | _ => cases h
theorem equalIn_bool {t : TypeId} (h : E.P.underlying t = some .bool) (a b : Bool) : det E.P (Op.equal t (.bool a) (.bool b)) = some (a == b) :=
  det_equal E h fun d => by simp only [Op.equalIn, det_underlying h]; rfl
theorem equalIn_ptr {t e : TypeId} (h : E.P.underlying t = some (.pointer e)) : det E.P (Op.equal t (.pointer none) (.pointer none)) = some true :=
  det_equal E h fun d => by simp only [Op.equalIn, det_underlying h]; rfl
theorem equalIn_slice {t e : TypeId} (h : E.P.underlying t = some (.slice e)) : det E.P (Op.equal t (.slice none 0 0) (.slice none 0 0)) = some true :=
  det_equal E h fun d => by simp only [Op.equalIn, det_underlying h]; rfl
theorem bin_beq (t : TypeId) (xo yo : Operand) (a b : Bool) (h : E.P.underlying t = some .bool) : binOpA E .eql t xo yo (.v (.bool a)) (.v (.bool b)) = .val (.v (.bool (a == b))) := by
  have e : det E.P (do eqGuard .eql t xo yo (.bool a) (.bool b); binOp .eql t (.bool a) (.bool b)) = some (.bool (a == b)) := det_map (fun b => .bool b) (equalIn_bool E h a b)
  simp only [binOpA, e]; rfl
theorem bin_bne (t : TypeId) (xo yo : Operand) (a b : Bool) (h : E.P.underlying t = some .bool) : binOpA E .neq t xo yo (.v (.bool a)) (.v (.bool b)) = .val (.v (.bool (!(a == b)))) := by
  have e : det E.P (do eqGuard .neq t xo yo (.bool a) (.bool b); binOp .neq t (.bool a) (.bool b)) = some (.bool (!(a == b))) := det_map (fun b => .bool (!b)) (equalIn_bool E h a b)
  simp only [binOpA, e]; rfl
theorem bin_pnil (t : TypeId) (xo yo : Operand) {u : TypeId} (h : E.P.underlying t = some (.pointer u)) : binOpA E .eql t xo yo (.v (.pointer none)) (.v (.pointer none)) = .val (.v (.bool true)) := by
  have e : det E.P (do eqGuard .eql t xo yo (.pointer none) (.pointer none); binOp .eql t (.pointer none) (.pointer none)) = some (.bool true) := det_map (fun b => .bool b) (equalIn_ptr E h)
  simp only [binOpA, e]; rfl
theorem bin_snil (t : TypeId) (xo yo : Operand) {u : TypeId} (h : E.P.underlying t = some (.slice u)) : binOpA E .eql t xo yo (.v (.slice none 0 0)) (.v (.slice none 0 0)) = .val (.v (.bool true)) := by
  have e : det E.P (do eqGuard .eql t xo yo (.slice none 0 0) (.slice none 0 0); binOp .eql t (.slice none 0 0) (.slice none 0 0)) = some (.bool true) := det_map (fun b => .bool b) (equalIn_slice E h)
  simp only [binOpA, e]; rfl
theorem bin_pop (t : TypeId) (xo yo : Operand) (n e i j : Nat) : binOpA E .eql t xo yo (.op n e i j) (.v (.pointer none)) = eqPlan E t false (.op n e i j) (.v (.pointer none)) := rfl
theorem bin_pope (t : TypeId) (xo yo : Operand) (n e i j : Nat) : binOpA E .neq t xo yo (.op n e i j) (.v (.pointer none)) = eqPlan E t true (.op n e i j) (.v (.pointer none)) := rfl
theorem eqPlan_op (t : TypeId) (neg : Bool) (n e i j : Nat) {u : TypeId} (h : E.P.underlying t = some (.pointer u)) : eqPlan E t neg (.op n e i j) (.v (.pointer none)) = live n e (.v (.bool neg)) := by simp only [eqPlan, h]
theorem bin_pfp (t : TypeId) (xo yo : Operand) (cs : List AV) : binOpA E .eql t xo yo (.fp cs) (.v (.pointer none)) = eqPlan E t false (.fp cs) (.v (.pointer none)) := rfl
theorem bin_pfpe (t : TypeId) (xo yo : Operand) (cs : List AV) : binOpA E .neq t xo yo (.fp cs) (.v (.pointer none)) = eqPlan E t true (.fp cs) (.v (.pointer none)) := rfl
theorem eqPlan_fp (t : TypeId) (neg : Bool) (cs : List AV) {u : TypeId} (h : E.P.underlying t = some (.pointer u)) : eqPlan E t neg (.fp cs) (.v (.pointer none)) = .val (.v (.bool neg)) := by simp only [eqPlan, h]
theorem bin_seql (t : TypeId) (xo yo : Operand) (a b : ByteArray) : binOpA E .eql t xo yo (.v (.string a)) (.v (.string b)) = .val (.v (.bool (a.toList == b.toList))) := rfl
theorem bin_sneq (t : TypeId) (xo yo : Operand) (a b : ByteArray) : binOpA E .neq t xo yo (.v (.string a)) (.v (.string b)) = .val (.v (.bool (!(a.toList == b.toList)))) := rfl
theorem bin_sadd (t : TypeId) (xo yo : Operand) (a b : ByteArray) (h : a.size + b.size ≤ 9223372036854775807) : binOpA E .add t xo yo (.v (.string a)) (.v (.string b)) = .val (.v (.string (a ++ b))) := by
  have e : det E.P (Op.stringOp .add a b) = some (.string (a ++ b)) := by
    have : ¬ ((a.size + b.size : Nat) : Int) > IntKind.i64.max := by show ¬ ((a.size + b.size : Nat) : Int) > 9223372036854775807; omega
    simp only [Op.stringOp, if_neg this]; rfl
  have h2 : det E.P (do eqGuard .add t xo yo (.string a) (.string b); binOp .add t (.string a) (.string b)) = det E.P (Op.stringOp .add a b) := rfl
  simp only [binOpA, h2, e]; rfl
theorem bin_eqPlan (t : TypeId) (xo yo : Operand) (xs ys : List AV) : binOpA E .eql t xo yo (.agg xs) (.agg ys) = eqPlan E t false (.agg xs) (.agg ys) := rfl
theorem bin_nePlan (t : TypeId) (xo yo : Operand) (xs ys : List AV) : binOpA E .neq t xo yo (.agg xs) (.agg ys) = eqPlan E t true (.agg xs) (.agg ys) := rfl
theorem eqPlan_agg (t : TypeId) (neg : Bool) (xs ys : List AV) {ks : List EK} (h : E.eqT t = some ks) : eqPlan E t neg (.agg xs) (.agg ys) = .opt ((eqCells ks xs ys).map fun b => .v (.bool (b != neg))) := by simp only [eqPlan, h]
theorem eqCell_i (k : IntKind) (a b : Int) : eqCell .i (.v (.int k a)) (.v (.int k b)) = some (decide (a = b)) := by
  have h : (a == b) = decide (a = b) := by by_cases h : a = b <;> simp [h]
  rw [← h]; simp [eqCell]
theorem eqCell_b (a b : Bool) : eqCell .b (.v (.bool a)) (.v (.bool b)) = some (a == b) := rfl
theorem eqCell_s (a b : ByteArray) : eqCell .s (.v (.string a)) (.v (.string b)) = some (a == b) := rfl
theorem eqCells_cons (k : EK) (ks : List EK) (x y : AV) (xs ys : List AV) : eqCells (k :: ks) (x :: xs) (y :: ys) = (eqCell k x y).bind fun a => (eqCells ks xs ys).bind fun b => some (a && b) := rfl
theorem eqCells_nil : eqCells [] [] [] = some true := rfl
theorem un_not (b : Bool) : plainV (det E.P (Op.unary .not (.bool b))) = some (.v (.bool (!b))) := rfl
theorem un_neg (k : IntKind) (n : Int) : plainV (det E.P (Op.unary .neg (.int k n))) = some (.v (.int k (k.wrap (0 - n)))) := rfl
theorem convA_int (src dst : TypeId) (k k' : IntKind) (n : Int) (h : (E.P.underlying src).isSome = true) (h' : E.P.underlying dst = some (.int k')) : convA E src dst (.v (.int k n)) = .val (.v (.int k' (k'.wrap n))) := by
  have : det E.P (convert src dst (.int k n)) = some (.int k' (k'.wrap n)) := by
    obtain ⟨u, hu⟩ := Option.isSome_iff_exists.1 h
    unfold convert
    rw [det_underlying hu, det_underlying h']
    cases u <;> rfl
  simp only [convA, this]; rfl
theorem min_int (ats : Array TypeId) (t : TypeId) (k : IntKind) (a b : Int) : builtinA E .min ats t [.v (.int k a), .v (.int k b)] = .val (.v (.int k (min a b))) := by
  have : det E.P (Builtin.min_ ats t #[.int k a, .int k b]) = some (.int k (min a b)) := by
    have h : (if b < a then b else a) = min a b := by split <;> omega
    rw [← h]; rfl
  simp only [builtinA, allPlain, Option.map_some, this]; rfl
theorem max_int (ats : Array TypeId) (t : TypeId) (k : IntKind) (a b : Int) : builtinA E .max ats t [.v (.int k a), .v (.int k b)] = .val (.v (.int k (max a b))) := by
  have : det E.P (Builtin.max_ ats t #[.int k a, .int k b]) = some (.int k (max a b)) := by
    have h : (if a < b then b else a) = max a b := by split <;> omega
    rw [← h]; rfl
  simp only [builtinA, allPlain, Option.map_some, this]; rfl
/-! Slices. x holds the elements es: nil, empty, or frozen. -/
def Sl (sz : Nat) (x : AV) (es : List (List AV)) : Prop := x = .sl sz es ∨ (es = [] ∧ (x = .e0 ∨ x = .v (.slice none 0 0)))
theorem len_sl (t ty : TypeId) (sz : Nat) (es : List (List AV)) (h : isSlT E.P t = true) : builtinA E .len #[t] ty [.sl sz es] = .val (.v (.int .i64 es.length)) := by simp only [builtinA, h]; rfl
theorem len_e0 (t ty : TypeId) (h : isSlT E.P t = true) : builtinA E .len #[t] ty [.e0] = .val (.v (.int .i64 0)) := by simp only [builtinA, h]; rfl
theorem len_nil (t ty : TypeId) (h : isSlT E.P t = true) : builtinA E .len #[t] ty [.v (.slice none 0 0)] = .val (.v (.int .i64 0)) := by simp only [builtinA, h]; rfl
theorem len_str (t ty : TypeId) (s : ByteArray) (h : isStrT E.P t = true) : builtinA E .len #[t] ty [.v (.string s)] = .val (.v (.int .i64 s.size)) := by simp only [builtinA, h]; rfl
theorem len_os (lo : Nat) (H : AHeap) (t ty : TypeId) (n e off len : Nat) (h : isSlT E.P t = true) : primL lo H (builtinA E .len #[t] ty [.os n e off len]) = (H.get n).bind fun b => (sliceElems b e off len).bind fun es => some (.v (.int .i64 es.length), H, ⟨bitsOf [n], 0, 0⟩) := by
  have : builtinA E .len #[t] ty [.os n e off len] = srd (.os n e off len) fun _ es => some (.none (.v (.int .i64 es.length))) := by simp only [builtinA, h]; rfl
  rw [this]; simp only [srd, primL_prim1]
  cases H.get n with
  | none => rfl
  | some b => simp only [Option.bind_some]; cases sliceElems b e off len <;> rfl
theorem len_Sl (lo : Nat) (H : AHeap) (t ty : TypeId) {sz : Nat} {x : AV} {es : List (List AV)} (hx : Sl sz x es) (h : isSlT E.P t = true) : primL lo H (builtinA E .len #[t] ty [x]) = some (.v (.int .i64 es.length), H, ⟨0, 0, 0⟩) := by
  rcases hx with rfl | ⟨rfl, rfl | rfl⟩
  · rw [len_sl E t ty sz es h]; rfl
  · rw [len_e0 E t ty h]; rfl
  · rw [len_nil E t ty h]; rfl
theorem index_Sl (lo : Nat) (H : AHeap) (t : TypeId) {sz : Nat} {x : AV} {es : List (List AV)} (κ : IntKind) (i : Int) (hx : Sl sz x es) (h : slSz E.P t = some sz) : primL lo H (indexAddrA E t x (.v (.int κ i))) = if 0 ≤ i ∧ i < es.length then some (.fp (nth [] es i.toNat), H, ⟨0, 0, 0⟩) else none := by
  rcases hx with rfl | ⟨rfl, rfl | rfl⟩
  · rw [indexAddrA_sl E lo H t sz es κ i h]; simp only [and_true]
  · rw [if_neg (by simp only [List.length_nil]; omega)]
    obtain ⟨e, h1, h2⟩ := slSz_ok h
    have : indexAddrA E t .e0 (.v (.int κ i)) = .bad := by simp only [indexAddrA, h1, h2]
    rw [this]; rfl
  · rw [if_neg (by simp only [List.length_nil]; omega)]
    obtain ⟨e, h1, h2⟩ := slSz_ok h
    have : indexAddrA E t (.v (.slice none 0 0)) (.v (.int κ i)) = .bad := by simp only [indexAddrA, h1, h2]
    rw [this]; rfl
end

/-! Guards. -/
section
variable {o : Oper} {ops : List Oper} {tm : Slots} {j t : Nat} {b c : Bool}
theorem wantT (hg : o.guard = some (j, true)) (hj : (ops[j]?).bind (·.dst) = some t) (ht : tm.get t = .v (.bool b)) : wantedA o ops tm = some b := by
  simp only [wantedA, hg, hj, ht]; cases b <;> rfl
theorem wantF (hg : o.guard = some (j, false)) (hj : (ops[j]?).bind (·.dst) = some t) (ht : tm.get t = .v (.bool b)) : wantedA o ops tm = some (!b) := by
  simp only [wantedA, hg, hj, ht]; cases b <;> rfl
theorem wantTg (hg : o.guard = some (j, true)) (hj : (ops[j]?).bind (·.dst) = some t) (ht : tm.get t = gv c (.v (.bool b))) : wantedA o ops tm = some (c && b) := by
  simp only [wantedA, hg, hj, ht]; cases c <;> cases b <;> rfl
theorem wantFg (hg : o.guard = some (j, false)) (hj : (ops[j]?).bind (·.dst) = some t) (ht : tm.get t = gv c (.v (.bool b))) : wantedA o ops tm = some (c && !b) := by
  simp only [wantedA, hg, hj, ht]; cases c <;> cases b <;> rfl
theorem want0 (hg : o.guard = none) : wantedA o ops tm = some true := by simp only [wantedA, hg]
theorem pick_and (t p : Bool) : (bif t then gv t (.v (.bool p)) else .v (.bool false)) = AV.v (.bool (t && p)) := by cases t <;> rfl
theorem pick_or (t p : Bool) : (bif t then .v (.bool true) else gv (!t) (.v (.bool p))) = AV.v (.bool (t || p)) := by cases t <;> rfl
end

/-! What is handed back, frozen. -/
def flatB : AV → Bool
  | .v _ | .sl _ _ | .e0 | .fp _ => true
  | _ => false
def FlatL (cs : List AV) : Prop := ∀ x ∈ cs, flatB x = true
def FlatE (es : List (List AV)) : Prop := ∀ c ∈ es, FlatL c
theorem FlatE.nil : FlatE [] := fun _ h => by cases h
theorem FlatE.cons {c : List AV} {es : List (List AV)} (hc : FlatL c) (h : FlatE es) : FlatE (c :: es) := fun d hd => by
  rcases List.mem_cons.1 hd with rfl | hd
  · exact hc
  · exact h d hd
theorem FlatE.append {es fs : List (List AV)} (h : FlatE es) (h' : FlatE fs) : FlatE (es ++ fs) := fun c hc => (List.mem_append.1 hc).elim (h c) (h' c)
theorem FlatE.map {α : Type} {f : α → List AV} (hf : ∀ a, FlatL (f a)) (l : List α) : FlatE (l.map f) := fun c hc => by
  obtain ⟨a, _, rfl⟩ := List.mem_map.1 hc
  exact hf a
theorem FlatE.take {es : List (List AV)} (h : FlatE es) (n : Nat) : FlatE (es.take n) := fun c hc => h c (List.mem_of_mem_take hc)
theorem FlatE.drop {es : List (List AV)} (h : FlatE es) (n : Nat) : FlatE (es.drop n) := fun c hc => h c (List.mem_of_mem_drop hc)
def frzC (H : AHeap) (lo : Nat) (x : AV) : AV := renC H lo 0 [] frzDepth x
def frzR1 (H : AHeap) (lo : Nat) (x : AV) : AV := ren1 H lo 0 [] frzDepth x
theorem frz_flat (H : AHeap) (bad : Nat → Bool) (d : Nat) (x : AV) (h : flatB x = true) : frz H bad (d + 1) x = x := by cases x <;> first | rfl | cases h
theorem frz_flatE (H : AHeap) (bad : Nat → Bool) (d : Nat) {es : List (List AV)} (h : FlatE es) : es.map (fun c => c.map (frz H bad (d + 1))) = es := by
  have : ∀ c ∈ es, c.map (frz H bad (d + 1)) = c := fun c hc => by
    conv => rhs; rw [← List.map_id c]
    exact List.map_congr_left fun x hx => frz_flat H bad d x (h c hc x hx)
  conv => rhs; rw [← List.map_id es]
  exact List.map_congr_left fun c hc => this c hc
section
variable (H : AHeap) (lo : Nat)
theorem frzR_v (x : Value) : frzR H lo (.v x) = .v x := rfl
theorem frzR_sl (sz : Nat) (es : List (List AV)) : frzR H lo (.sl sz es) = .sl sz es := rfl
theorem frzR_e0 : frzR H lo .e0 = .e0 := rfl
theorem frzR_fp (cs : List AV) : frzR H lo (.fp cs) = .fp cs := rfl
theorem frzR_agg (cs : List AV) : frzR H lo (.agg cs) = .agg (cs.map (frzC H lo)) := rfl
theorem frzR_tup (cs : List AV) : frzR H lo (.tup cs) = .tup (cs.map (frzR1 H lo)) := rfl
theorem frzR1_v (x : Value) : frzR1 H lo (.v x) = .v x := rfl
theorem frzR1_sl (sz : Nat) (es : List (List AV)) : frzR1 H lo (.sl sz es) = .sl sz es := rfl
theorem frzR1_e0 : frzR1 H lo .e0 = .e0 := rfl
theorem frzR1_agg (cs : List AV) : frzR1 H lo (.agg cs) = .agg (cs.map (frzC H lo)) := rfl
theorem frzC_v (x : Value) : frzC H lo (.v x) = .v x := rfl
theorem frzC_sl (sz : Nat) (es : List (List AV)) : frzC H lo (.sl sz es) = .sl sz es := rfl
theorem frzC_e0 : frzC H lo .e0 = .e0 := rfl
theorem frzC_fp (cs : List AV) : frzC H lo (.fp cs) = .fp cs := rfl
theorem frzC_flat {x : AV} (h : flatB x = true) : frzC H lo x = x := by cases x <;> first | rfl | cases h
theorem flat_Sl {sz : Nat} {x : AV} {es : List (List AV)} (h : Sl sz x es) : flatB x = true := by
  rcases h with rfl | ⟨_, rfl | rfl⟩ <;> rfl
theorem frzR_Sl {sz : Nat} {x : AV} {es : List (List AV)} (h : Sl sz x es) : frzR H lo x = x := by
  rcases h with rfl | ⟨_, rfl | rfl⟩ <;> rfl
theorem frz_os {bad : Nat → Bool} {d n e off len : Nat} {b : Blk} (h2 : bad n = false) (hb : H.get n = some b) (he : b.ep = e) (hi : b.it = none) (ho : off + len ≤ b.es.length) (hz : 0 < b.sz) (hf : FlatE b.es) : frz H bad (d + 1 + 1) (.os n e off len) = .sl b.sz ((b.es.drop off).take len) := by
  show (if bad n then AV.dead else match H.get n with
      | some b => if b.ep = e ∧ b.it.isNone ∧ off + len ≤ b.es.length ∧ 0 < b.sz then .sl b.sz (((b.es.drop off).take len).map fun c => c.map (frz H bad (d + 1))) else .dead
      | none => .dead) = _
  rw [h2, if_neg (by decide), hb]
  show (if b.ep = e ∧ b.it.isNone = true ∧ off + len ≤ b.es.length ∧ 0 < b.sz then _ else _) = _
  rw [if_pos ⟨he, by rw [hi]; rfl, ho, hz⟩, frz_flatE H bad d ((hf.drop off).take len)]
theorem frzC_os {n e off len : Nat} {b : Blk} (hl : lo ≤ n) (hb : H.get n = some b) (he : b.ep = e) (hi : b.it = none) (ho : off + len ≤ b.es.length) (hz : 0 < b.sz) (hf : FlatE b.es) : frzC H lo (.os n e off len) = .sl b.sz ((b.es.drop off).take len) := by
  have h1 : ¬ n < lo := by omega
  have h2 : badN lo [] n = false := by
    have : Nat.blt n lo = false := by rw [← Bool.not_eq_true, Nat.blt_eq]; exact h1
    simp [badN, this]
  show (if n < lo then AV.os n e off len else frz H (badN lo []) frzDepth (.os n e off len)) = _
  rw [if_neg h1]
  exact frz_os (d := 10) H h2 hb he hi ho hz hf
theorem frzR_os {n e off len : Nat} {b : Blk} (hl : lo ≤ n) (hb : H.get n = some b) (he : b.ep = e) (hi : b.it = none) (ho : off + len ≤ b.es.length) (hz : 0 < b.sz) (hf : FlatE b.es) : frzR H lo (.os n e off len) = .sl b.sz ((b.es.drop off).take len) := frzC_os H lo hl hb he hi ho hz hf
theorem frzR1_os {n e off len : Nat} {b : Blk} (hl : lo ≤ n) (hb : H.get n = some b) (he : b.ep = e) (hi : b.it = none) (ho : off + len ≤ b.es.length) (hz : 0 < b.sz) (hf : FlatE b.es) : frzR1 H lo (.os n e off len) = .sl b.sz ((b.es.drop off).take len) := frzC_os H lo hl hb he hi ho hz hf
end

/-! Results. -/
section
variable {P : Program} {fn : Func} {s : St}
theorem res0 (h : fn.results = #[]) : resultsA P fn s = some (.tup []) := by simp [resultsA, h]
theorem res1 {t : Tmp} (h : fn.results = #[.tmp t]) : resultsA P fn s = some (s.tm.get t) := by simp [resultsA, h]
theorem res2 {t u : Tmp} (h : fn.results = #[.tmp t, .tmp u]) : resultsA P fn s = some (.tup [s.tm.get t, s.tm.get u]) := by simp [resultsA, h]
theorem res3 {t u v : Tmp} (h : fn.results = #[.tmp t, .tmp u, .tmp v]) : resultsA P fn s = some (.tup [s.tm.get t, s.tm.get u, s.tm.get v]) := by simp [resultsA, h]
def cellR (P : Program) (H : AHeap) (t : TypeId) (a : AV) : Option AV := match a with
  | .op n e i j => (H.get n).bind fun b => if b.ep = e ∧ b.it.isNone = true ∧ i < b.es.length ∧ j ≤ b.sz then partA P t ((nth [] b.es i).drop j) else none
  | _ => none
theorem cellR_op (P : Program) (H : AHeap) (t : TypeId) (n e i j : Nat) : cellR P H t (.op n e i j) = (H.get n).bind fun b => if b.ep = e ∧ b.it.isNone = true ∧ i < b.es.length ∧ j ≤ b.sz then partA P t ((nth [] b.es i).drop j) else none := rfl
theorem resc {a t : Nat} (h : fn.results = #[.cell a t]) : resultsA P fn s = cellR P s.H t (s.tm.get a) := by
  have e : resultsA P fn s = (cellR P s.H t (s.tm.get a)).bind fun x => some x := by
    unfold resultsA
    rw [h]
    simp only [cellR, nth_getD, List.mapM_cons, List.mapM_nil]
    cases s.tm.get a with
    | op n e i j =>
      dsimp only
      cases s.H.get n with
      | none => rfl
      | some b =>
        simp only [bind, Option.bind_some]
        split
        · cases partA P t (List.drop j (b.es.getD i [])) <;> rfl
        · rfl
    | _ => rfl
  rw [e]; cases cellR P s.H t (s.tm.get a) <;> rfl
theorem resct {a t u : Nat} (h : fn.results = #[.cell a t, .tmp u]) : resultsA P fn s = (cellR P s.H t (s.tm.get a)).bind fun x => some (.tup [x, s.tm.get u]) := by
  unfold resultsA
  rw [h]
  simp only [cellR, nth_getD, List.mapM_cons, List.mapM_nil]
  cases s.tm.get a with
  | op n e i j =>
    dsimp only
    cases s.H.get n with
    | none => rfl
    | some b =>
      simp only [bind, Option.bind_some]
      split
      · cases partA P t (List.drop j (b.es.getD i [])) <;> rfl
      · rfl
  | _ => rfl
end
end Go.Am
