/- Lemmas on the relation: what is read out of it; cells that are put together; what an operation's effect is to do. -/
import Derived.Test.YtoeemmlfcnokiaaGreatAmRel
import Derived.Laws.StructEq
import Derived.Laws.NewFold
import Derived.Laws.CopyRow
set_option linter.all false
set_option linter.deprecated false
namespace Go.Am

theorem VR.v_inv {C : Ctx} {a v : Value} (h : VR C (.v a) v) : v = a ∧ plain a = true := by
  cases h with | fr h => cases h with | v h => exact ⟨rfl, h⟩
theorem VR.e0_inv {C : Ctx} {v : Value} (h : VR C .e0 v) : ∃ a, v = .slice (some a) 0 0 := by
  cases h with | fr h => cases h with | e0 a => exact ⟨a, rfl⟩
theorem VR.sl_inv {C : Ctx} {sz : Nat} {es : List (List AV)} {v : Value} (h : VR C (.sl sz es) v) : FR C.w C.av (.sl sz es) v := by
  cases h with | fr h => exact h
theorem VR.fp_inv {C : Ctx} {cs : List AV} {v : Value} (h : VR C (.fp cs) v) : FR C.w C.av (.fp cs) v := by
  cases h with | fr h => exact h
theorem VR.agg_inv {C : Ctx} {cs : List AV} {v : Value} (h : VR C (.agg cs) v) :
    ∃ vs : Array Value, v = .agg vs ∧ vs.size = cs.length ∧ (∀ i, i < cs.length → (vs.getD i undef).oneCell' = true) ∧ ∀ i, i < cs.length → VR C (cs.getD i .dead) (vs.getD i undef) := by
  cases h with
  | fr h => cases h with | agg vs hl h1 hr => exact ⟨vs, rfl, hl, h1, fun i hi => .fr (hr i hi)⟩
  | agg vs hl h1 hr => exact ⟨vs, rfl, hl, h1, hr⟩
theorem VR.tup_inv {C : Ctx} {cs : List AV} {v : Value} (h : VR C (.tup cs) v) :
    ∃ vs : Array Value, v = .tuple vs ∧ vs.size = cs.length ∧ ∀ i, i < cs.length → VR C (cs.getD i .dead) (vs.getD i undef) := by
  cases h with
  | fr h => cases h with | tup vs hl hr => exact ⟨vs, rfl, hl, fun i hi => .fr (hr i hi)⟩
  | tup vs hl hr => exact ⟨vs, rfl, hl, hr⟩
theorem VR.fn_inv {C : Ctx} {cs : List AV} {f : FuncId} {v : Value} (h : VR C (.fn f cs) v) :
    ∃ vs : Array Value, v = .func (.func f) #[] vs ∧ vs.size = cs.length ∧ ∀ i, i < cs.length → VR C (cs.getD i .dead) (vs.getD i undef) := by
  cases h with
  | fr h => cases h with | fn f vs hl hr => exact ⟨vs, rfl, hl, fun i hi => .fr (hr i hi)⟩
  | fn f vs hl hr => exact ⟨vs, rfl, hl, hr⟩
theorem VR.os_inv {C : Ctx} {n e off len : Nat} {v : Value} (h : VR C (.os n e off len) v) {b : Blk} (hg : C.get n = some b) (hep : b.ep = e) :
    ∃ a cap, v = .slice (some a) len cap ∧ off + cap = (C.β n).2.2 ∧ len ≤ cap ∧ (0 < cap → a = ⟨(C.β n).1, (C.β n).2.1 + off * b.sz, none⟩) := by
  cases h with
  | fr h => cases h
  | os _ _ _ _ _ _ _ _ h => exact h b hg hep
theorem VR.op_inv {C : Ctx} {n e i j : Nat} {v : Value} (h : VR C (.op n e i j) v) {b : Blk} (hg : C.get n = some b) (hep : b.ep = e) :
    v = .pointer (some ⟨(C.β n).1, (C.β n).2.1 + i * b.sz + j, none⟩) := by
  cases h with
  | fr h => cases h
  | op _ _ _ _ _ _ _ _ h => exact h b hg hep
theorem VR.os_mk {C : Ctx} {n e off len : Nat} {v : Value} {b : Blk} (g : Good C) (hg : C.get n = some b) (hep : b.ep = e) {a : Addr} {cap : Nat} (hv : v = .slice (some a) len cap) (hc : off + cap = (C.β n).2.2) (hl : len ≤ cap)
    (ha : 0 < cap → a = ⟨(C.β n).1, (C.β n).2.1 + off * b.sz, none⟩) : VR C (.os n e off len) v := by
  subst hv
  refine .os _ _ _ _ _ (g.born n b hg) rfl (fun b' h' => ?_) fun b' h' _ => ?_
  · rw [hg] at h'
    cases h'
    omega
  · rw [hg] at h'
    cases h'
    exact ⟨a, cap, rfl, hc, hl, ha⟩
theorem VR.op_mk {C : Ctx} {n e i j : Nat} {v : Value} {b : Blk} (g : Good C) (hg : C.get n = some b) (hep : b.ep = e) (hv : v = .pointer (some ⟨(C.β n).1, (C.β n).2.1 + i * b.sz + j, none⟩)) : VR C (.op n e i j) v := by
  subst hv
  refine .op _ _ _ _ _ (g.born n b hg) rfl (fun b' h' => ?_) fun b' h' _ => ?_
  · rw [hg] at h'
    cases h'
    omega
  · rw [hg] at h'
    cases h'
    rfl

theorem plain_oneCell {x : Value} (h : plain x = true) : x.oneCell' = true := by cases x <;> simp_all [plain, Value.oneCell']

/-- A value that is neither a struct nor a tuple nor unknown takes one cell. -/
theorem VR.one {C : Ctx} {x : AV} {v : Value} (h : VR C x v) (h1 : ∀ cs, x ≠ .agg cs) (h2 : ∀ cs, x ≠ .tup cs) (h3 : x ≠ .dead) : v.oneCell' = true := by
  cases h with
  | fr h => cases h with
    | v h => exact plain_oneCell h
    | e0 a => rfl
    | sl => rfl
    | fp => rfl
    | agg => exact absurd rfl (h1 _)
    | tup => exact absurd rfl (h2 _)
    | fn => rfl
    | dead => exact absurd rfl h3
  | os _ _ _ _ _ _ h => exact h
  | op _ _ _ _ _ _ h => exact h
  | yl => rfl
  | agg => exact absurd rfl (h1 _)
  | tup => exact absurd rfl (h2 _)
  | fn => rfl

/-- Cells one by one. -/
def CR (C : Ctx) (cs : List AV) (vs : Array Value) : Prop :=
  vs.size = cs.length ∧ ∀ i, i < cs.length → (vs.getD i undef).oneCell' = true ∧ VR C (cs.getD i .dead) (vs.getD i undef)
theorem CR.mono {C C' : Ctx} (k : Le C C') {cs : List AV} {vs : Array Value} (h : CR C cs vs) : CR C' cs vs := ⟨h.1, fun i hi => ⟨(h.2 i hi).1, (h.2 i hi).2.mono k⟩⟩
theorem CR.agg {C : Ctx} {cs : List AV} {vs : Array Value} (h : CR C cs vs) : VR C (.agg cs) (.agg vs) := .agg vs h.1 (fun i hi => (h.2 i hi).1) fun i hi => (h.2 i hi).2

theorem cellsOf_rel {C : Ctx} {x : AV} {v : Value} (h : VR C x v) {cs : List AV} (hc : cellsOf x = some cs) : CR C cs v.cells := by
  have single : (∀ c, x ≠ .agg c) → (∀ c, x ≠ .tup c) → x ≠ .dead → cs = [x] → v.cells = #[v] → CR C cs v.cells := by
    intro h1 h2 h3 e1 e2
    subst e1
    rw [e2]
    refine ⟨rfl, fun i hi => ?_⟩
    have : i = 0 := by simpa using hi
    subst this
    exact ⟨h.one h1 h2 h3, h⟩
  have v1 : ∀ {v : Value}, v.oneCell' = true → v.cells = #[v] := by intro v hv; cases v <;> first | rfl | simp [Value.oneCell'] at hv
  cases x with
  | agg c =>
    simp only [cellsOf, Option.some.injEq] at hc
    subst hc
    obtain ⟨vs, rfl, hl, h1, hr⟩ := h.agg_inv
    exact ⟨hl, fun i hi => ⟨h1 i hi, hr i hi⟩⟩
  | tup c => simp [cellsOf] at hc
  | dead => simp [cellsOf] at hc
  | v a => simp only [cellsOf, Option.some.injEq] at hc; exact single (by simp) (by simp) (by simp) hc.symm (v1 (h.one (by simp) (by simp) (by simp)))
  | sl a b => simp only [cellsOf, Option.some.injEq] at hc; exact single (by simp) (by simp) (by simp) hc.symm (v1 (h.one (by simp) (by simp) (by simp)))
  | e0 => simp only [cellsOf, Option.some.injEq] at hc; exact single (by simp) (by simp) (by simp) hc.symm (v1 (h.one (by simp) (by simp) (by simp)))
  | fp a => simp only [cellsOf, Option.some.injEq] at hc; exact single (by simp) (by simp) (by simp) hc.symm (v1 (h.one (by simp) (by simp) (by simp)))
  | os a b c d => simp only [cellsOf, Option.some.injEq] at hc; exact single (by simp) (by simp) (by simp) hc.symm (v1 (h.one (by simp) (by simp) (by simp)))
  | op a b c d => simp only [cellsOf, Option.some.injEq] at hc; exact single (by simp) (by simp) (by simp) hc.symm (v1 (h.one (by simp) (by simp) (by simp)))
  | yl a => simp only [cellsOf, Option.some.injEq] at hc; exact single (by simp) (by simp) (by simp) hc.symm (v1 (h.one (by simp) (by simp) (by simp)))
  | fn a b => simp only [cellsOf, Option.some.injEq] at hc; exact single (by simp) (by simp) (by simp) hc.symm (v1 (h.one (by simp) (by simp) (by simp)))

/-- Values written over others, from a place on. -/
def overV (cs : Array Value) (o : Nat) : List Value → Array Value
  | [] => cs
  | v :: r => overV (cs.setIfInBounds o v) (o + 1) r
theorem overV_size (l : List Value) : ∀ (cs : Array Value) (o : Nat), (overV cs o l).size = cs.size := by
  induction l with
  | nil => intro cs o; rfl
  | cons v r ih => intro cs o; simp [overV, ih]
theorem overV_get (l : List Value) : ∀ (cs : Array Value) (o k : Nat), k < cs.size → (overV cs o l).getD k undef = if o ≤ k ∧ k < o + l.length then l.getD (k - o) undef else cs.getD k undef := by
  induction l with
  | nil => intro cs o k _; simp [overV]; omega
  | cons v r ih =>
    intro cs o k hk
    simp only [overV]
    rw [ih _ _ _ (by simpa using hk)]
    by_cases h1 : o + 1 ≤ k ∧ k < o + 1 + r.length
    · rw [if_pos h1, if_pos (by simp; omega)]
      rw [show k - o = (k - (o + 1)) + 1 by omega, List.getD_cons_succ]
    · rw [if_neg h1]
      by_cases h2 : k = o
      · subst h2
        rw [if_pos (by simp)]
        simp [Array.getD, hk]
      · rw [if_neg (by simp; omega)]
        simp only [Array.getD_eq_getD_getElem?, Array.getElem?_setIfInBounds]
        rw [if_neg (by omega)]

theorem getD_take {α : Type} (l : List α) (k i : Nat) (d : α) : (l.take k).getD i d = if i < k then l.getD i d else d := by
  simp only [List.getD_eq_getElem?_getD, List.getElem?_take]
  split <;> rfl
theorem getD_drop {α : Type} (l : List α) (k i : Nat) (d : α) : (l.drop k).getD i d = l.getD (k + i) d := by
  simp [List.getD_eq_getElem?_getD, List.getElem?_drop]
theorem getD_append {α : Type} (l m : List α) (i : Nat) (d : α) : (l ++ m).getD i d = if i < l.length then l.getD i d else m.getD (i - l.length) d := by
  simp only [List.getD_eq_getElem?_getD, List.getElem?_append]
  split <;> rfl
theorem setCells_length (el : List AV) (j : Nat) (cs : List AV) (h : j + cs.length ≤ el.length) : (setCells el j cs).length = el.length := by
  simp [setCells]
  omega
theorem setCells_get (el : List AV) (j : Nat) (cs : List AV) (h : j + cs.length ≤ el.length) (k : Nat) : (setCells el j cs).getD k .dead = if j ≤ k ∧ k < j + cs.length then cs.getD (k - j) .dead else el.getD k .dead := by
  unfold setCells
  rw [getD_append, getD_append, getD_take, getD_drop]
  simp only [List.length_append, List.length_take, Nat.min_eq_left (show j ≤ el.length by omega)]
  by_cases h1 : k < j
  · rw [if_pos (by omega), if_pos h1, if_pos h1, if_neg (by omega)]
  · by_cases h2 : k < j + cs.length
    · rw [if_pos h2, if_neg h1, if_pos (by omega)]
    · rw [if_neg h2, if_neg (by omega)]
      congr 1
      omega

/-- Cells over cells. -/
theorem CR.over {C : Ctx} {cs ps : List AV} {vs us : Array Value} (h : CR C cs vs) (hp : CR C ps us) (o : Nat) (ho : o + ps.length ≤ cs.length) : CR C (setCells cs o ps) (overV vs o us.toList) := by
  refine ⟨by rw [overV_size, setCells_length _ _ _ ho, h.1], fun i hi => ?_⟩
  rw [setCells_length _ _ _ ho] at hi
  rw [setCells_get _ _ _ ho, overV_get _ _ _ _ (by rw [h.1]; exact hi)]
  have hl : us.toList.length = ps.length := by simpa using hp.1
  by_cases hc : o ≤ i ∧ i < o + ps.length
  · rw [if_pos hc, if_pos (by omega)]
    have := hp.2 (i - o) (by omega)
    simpa [Array.getD_eq_getD_getElem?, List.getD_eq_getElem?_getD] using this
  · rw [if_neg hc, if_neg (by omega)]
    exact h.2 i hi

theorem CR.take {C : Ctx} {cs : List AV} {vs : Array Value} (h : CR C cs vs) (s : Nat) (hs : s ≤ cs.length) : CR C (cs.take s) (vs.extract 0 s) := by
  refine ⟨by simp [h.1, Nat.min_eq_left hs], fun i hi => ?_⟩
  have hi' : i < s := by simp at hi; omega
  have := h.2 i (by omega)
  rw [getD_take, if_pos hi']
  have e : (vs.extract 0 s).getD i undef = vs.getD i undef := by
    simp only [Array.getD_eq_getD_getElem?, Array.getElem?_extract]
    rw [if_pos (by rw [h.1]; omega)]
    simp
  rw [e]
  exact this
theorem CR.extract {C : Ctx} {cs : List AV} {vs : Array Value} (h : CR C cs vs) (o s : Nat) (hs : o + s ≤ cs.length) : CR C ((cs.drop o).take s) (vs.extract o (o + s)) := by
  refine ⟨by simp [h.1]; omega, fun i hi => ?_⟩
  have hi' : i < s := by simp at hi; omega
  have := h.2 (o + i) (by omega)
  rw [getD_take, if_pos hi', getD_drop]
  have e : (vs.extract o (o + s)).getD i undef = vs.getD (o + i) undef := by
    simp only [Array.getD_eq_getD_getElem?, Array.getElem?_extract]
    rw [if_pos (by rw [h.1]; omega)]
  rw [e]
  exact this

theorem foldl_set_eq (l : List Value) : ∀ (arr : Array Value) (off k : Nat), ((l.zipIdx k).foldl (fun cs (p : Value × Nat) => cs.setIfInBounds (off + p.2) p.1) arr) = overV arr (off + k) l := by
  induction l with
  | nil => intro arr off k; rfl
  | cons v r ih => intro arr off k; simp only [List.zipIdx_cons, List.foldl_cons, overV]; rw [ih]; rfl

/-- Operands, one by one. -/
inductive PR (C : Ctx) : List (Nat × AV) → List (Nat × Value) → Prop
  | nil : PR C [] []
  | cons {p : Nat × AV} {q : Nat × Value} {ps : List (Nat × AV)} {vs : List (Nat × Value)} (h : p.1 = q.1 ∧ VR C p.2 q.2) (t : PR C ps vs) : PR C (p :: ps) (q :: vs)

theorem fill_rel {C : Ctx} {place : Nat → Option (Nat × Nat)} {ps : List (Nat × AV)} {vs : List (Nat × Value)} (hp : PR C ps vs) :
    ∀ {cs cs' : List AV} {arr : Array Value}, CR C cs arr → fillA place cs ps = some cs' → ∃ arr', Instr.fill place arr vs = some arr' ∧ CR C cs' arr' := by
  induction hp with
  | nil =>
    intro cs cs' arr h hf
    simp only [fillA, Option.some.injEq] at hf
    subst hf
    exact ⟨arr, rfl, h⟩
  | @cons p q ps vs hpq _ ih =>
    intro cs cs' arr h hf
    obtain ⟨i, x⟩ := p
    obtain ⟨i', v⟩ := q
    obtain ⟨rfl, hv⟩ := hpq
    simp only [fillA] at hf
    cases hpl : place i with
    | none => rw [hpl] at hf; cases hf
    | some os =>
      obtain ⟨off, size⟩ := os
      rw [hpl] at hf
      simp only [Option.bind_eq_bind, Option.bind_some] at hf
      cases hcx : cellsOf x with
      | none => rw [hcx] at hf; cases hf
      | some pc =>
        rw [hcx] at hf
        simp only [Option.bind_some] at hf
        split at hf
        · rename_i hcond
          have hr : CR C pc v.cells := cellsOf_rel hv hcx
          obtain ⟨arr', h1, h2⟩ := ih (h.over hr off (by omega)) hf
          refine ⟨arr', ?_, h2⟩
          have e1 : v.cells.size = size := by have := hr.1; omega
          have e2 : ¬ (off + v.cells.size > arr.size) := by have := h.1; omega
          show Instr.fill place arr ((i, v) :: vs) = some arr'
          simp only [Instr.fill, hpl]
          rw [if_neg (by simp only [Bool.or_eq_true, decide_eq_true_eq]; omega)]
          rw [← h1]
          congr 1
          rw [← Array.foldl_toList, Array.toList_zipIdx]
          exact foldl_set_eq v.cells.toList arr off 0
        · cases hf

/-! What an operation's effect is to do. -/
def Eff.get (ef : Eff) (nm : Nat) (G : Nat → Option Blk) : Nat → Option Blk :=
  match ef with
  | .none _ => G
  | .set n b _ => upd G n (some b)
  | .new b _ => upd G nm (some b)
def Eff.born (ef : Eff) (nm : Nat) (B : Nat → Prop) : Nat → Prop :=
  match ef with
  | .new _ _ => fun m => B m ∨ m = nm
  | _ => B
def Eff.val (ef : Eff) (nm : Nat) : AV :=
  match ef with
  | .none x => x
  | .set _ _ x => x
  | .new _ x => x nm
def NextIs (r : Result Next) (v : Value) (w : World) : Prop := r = .ok (.value v) w ∨ (r = .ok .skip w ∧ v = undef)

def EffOK (P : Program) (C : Ctx) (o : Oper) (ev : Operand → Value) (ef : Eff) : Prop :=
  ∀ nm, ¬ C.born nm → ∃ C' v, Le C C' ∧ Good C' ∧ C'.get = ef.get nm C.get ∧ (C'.born, C'.lp, C'.js, C'.X) = (ef.born nm C.born, C.lp, C.js, C.X) ∧ NextIs ((execOp ev o).run P C.w) v C'.w ∧ VR C' (ef.val nm) v

theorem EffOK.same {P : Program} {C : Ctx} (g : Good C) {o : Oper} {ev : Operand → Value} {x : AV} {v : Value} (hr : (execOp ev o).run P C.w = .ok (.value v) C.w) (h : VR C x v) : EffOK P C o ev (.none x) :=
  fun _ _ => ⟨C, v, .refl C, g, rfl, rfl, .inl hr, h⟩
theorem EffOK.grow {P : Program} {C : Ctx} (g : Good C) {o : Oper} {ev : Operand → Value} {x : AV} {v : Value} {w' : World} (hr : (execOp ev o).run P C.w = .ok (.value v) w')
    (ho : w'.os = C.w.os) (ht : w'.tape = C.w.tape) (hu : w'.output = C.w.output) (hs : C.w.heap.size ≤ w'.heap.size)
    (hk : ∀ b, b < C.w.heap.size → w'.heap[b]? = C.w.heap[b]?) (h : VR C x v) : EffOK P C o ev (.none x) :=
  fun _ _ => ⟨C.grow w', v, Ctx.grow_le g w' ho ht hu hs hk, Ctx.grow_good g w' ho ht hu hs hk, rfl, rfl, .inl hr, h.mono (Ctx.grow_le g w' ho ht hu hs hk)⟩

theorem det_run {α : Type} {P : Program} {s : Sem α} {a : α} (h : det P s = some a) (w : World) : s.run P w = .ok a w := by
  induction s with
  | pure b => simp only [det, Option.some.injEq] at h; subst h; rfl
  | program k ih => exact ih P h
  | mark m k ih => exact ih h
  | _ => simp [det] at h

/-- Elements in a row of cells. -/
def ER (C : Ctx) (es : List (List AV)) (sz o : Nat) (cs : Array Value) : Prop :=
  (∀ i, i < es.length → (es.getD i []).length = sz) ∧ ∀ i j, i < es.length → j < sz → ∃ v, cs[o + i * sz + j]? = some v ∧ v.oneCell' = true ∧ VR C ((es.getD i []).getD j .dead) v
theorem ER.mono {C C' : Ctx} (k : Le C C') {es : List (List AV)} {sz o : Nat} {cs : Array Value} (h : ER C es sz o cs) : ER C' es sz o cs :=
  ⟨h.1, fun i j hi hj => let ⟨v, a, b, c⟩ := h.2 i j hi hj; ⟨v, a, b, c.mono k⟩⟩

/-- A new row of cells under a new name. -/
theorem new_row {C : Ctx} (g : Good C) (nm : Nat) (hn : ¬ C.born nm) (w' : World) (cs : Array Value) (t sz room : Nat) (fr : Nat × Nat) (es : List (List AV))
    (ho : w'.os = C.w.os) (ht : w'.tape = C.w.tape) (hu : w'.output = C.w.output) (hh : w'.heap = C.w.heap.push (.cells cs t fr)) (hfr : ∀ k, k < cs.size → ¬ (fr.1 ≤ k ∧ k < fr.2))
    (hsz : cs.size = room * sz) (hl : es.length ≤ room) (hm : room ≤ maxLen) (he : ER C es sz 0 cs) :
    let C' := C.put w' nm C.w.heap.size 0 room { elem := t, sz, ep := 0, es }
    Le C C' ∧ Good C' := by
  have hs : C.w.heap.size ≤ w'.heap.size := by rw [hh]; simp
  have hk : ∀ b, b < C.w.heap.size → w'.heap[b]? = C.w.heap[b]? := fun b hb => by rw [hh, Array.getElem?_push, if_neg (by omega)]
  have le := Ctx.put_le g w' nm C.w.heap.size 0 room { elem := t, sz, ep := 0, es } hn (Nat.le_refl _) ho ht hu hs hk
  refine ⟨le, Ctx.put_good g w' nm C.w.heap.size 0 room _ hn (Nat.le_refl _) ho ht hu hs hk ?_⟩
  simp only [BR]
  refine ⟨cs, fr, ?_, hfr, ?_, ?_, ?_, he.1, fun i j hi hj => ?_⟩
  · simp [Ctx.put, upd_same, hh]
  · simp [Ctx.put, upd_same, hsz]
  · simpa [Ctx.put, upd_same] using hl
  · simpa [Ctx.put, upd_same] using hm
  · obtain ⟨v, a, b, c⟩ := he.2 i j hi hj
    exact ⟨v, by simpa [Ctx.put, upd_same] using a, b, c.mono le⟩

end Go.Am
