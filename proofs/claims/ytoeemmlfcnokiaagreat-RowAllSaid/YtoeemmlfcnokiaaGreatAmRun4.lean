/- A call: its callee's body run; the marks taken; the results. -/
import Derived.Test.YtoeemmlfcnokiaaGreatAmRun3
import Derived.RangeFuncLeaves
import Derived.RangeFuncRecord
set_option linter.all false
set_option linter.deprecated false
namespace Go.Am

structure HR (C : Ctx) (H : AHeap) : Prop where
  get : ∀ n, C.get n = H.get n
  born : ∀ n, C.born n ↔ n < H.next
  js : C.js = H.js

def ARel (C : Ctx) (args : List AV) (vs : Array Value) : Prop := vs.size = args.length ∧ ∀ i, i < args.length → VR C (args.getD i .dead) (vs.getD i undef)
theorem ARel.mono {C C' : Ctx} (k : Le C C') {args : List AV} {vs : Array Value} (h : ARel C args vs) : ARel C' args vs := ⟨h.1, fun i hi => (h.2 i hi).mono k⟩

def YRel (C : Ctx) (ys : List (Nat × LRec)) : Prop :=
  ∀ p ∈ ys, ∃ (l : Nat) (r : Loop), C.lp[p.1]? = some (l, r) ∧ r.params.toList = p.2.params ∧ r.assign = p.2.assign ∧ r.body = p.2.body ∧ TR C p.2.tm r.tmps
theorem YRel.mono {C C' : Ctx} (k : Le C C') {ys : List (Nat × LRec)} (h : YRel C ys) : YRel C' ys := fun p hp =>
  let ⟨l, r, a, b, c, d, e⟩ := h p hp; ⟨l, r, k.lp _ _ a, b, c, d, e.mono k⟩
theorem YRel.nil (C : Ctx) : YRel C [] := fun p hp => by cases hp

/-- A later context, the shared heap's state in it. -/
structure After (C C' : Ctx) (lo : Nat) (ys : List (Nat × LRec)) (H' : AHeap) : Prop where
  le : Le C C'
  good : Good C'
  hr : HR C' H'
  low : ∀ n, n < lo → C'.get n = C.get n
  js : ∀ (k : Nat), k < C.js.length → (∀ p ∈ ys, p.1 ≠ k) → C'.js[k]? = C.js[k]?

theorem After.refl {C : Ctx} {lo : Nat} {ys : List (Nat × LRec)} {H : AHeap} (g : Good C) (h : HR C H) : After C C lo ys H := ⟨.refl C, g, h, fun _ _ => rfl, fun _ _ _ => rfl⟩
theorem Good.jslen {C C' : Ctx} (g : Good C) (g' : Good C') (k : Le C C') : C.js.length ≤ C'.js.length := by
  rw [g.lpn, g'.lpn]
  rcases Nat.eq_zero_or_pos C.lp.length with h | h
  · omega
  · have hlt : C.lp.length - 1 < C.lp.length := by omega
    have := k.lp (C.lp.length - 1) _ (List.getElem?_eq_getElem hlt)
    have := (List.getElem?_eq_some_iff.1 this).1
    omega
theorem After.trans {A B C : Ctx} {lo : Nat} {ys : List (Nat × LRec)} {H H' : AHeap} (g : Good A) (h : After A B lo ys H) (k : After B C lo ys H') : After A C lo ys H' where
  le := h.le.trans k.le
  good := k.good
  hr := k.hr
  low := fun n hn => (k.low n hn).trans (h.low n hn)
  js := fun i hi hp => (k.js i (Nat.lt_of_lt_of_le hi (g.jslen h.good h.le)) hp).trans (h.js i hi hp)

/-! Blocks that hold nothing of the values are turned. -/
/-- The same context, in a world in which only blocks of X and records of loops over functions that are over were turned; fewer such. -/
theorem VR.turn {C C' : Ctx} (hg : C'.get = C.get) (hβ : C'.β = C.β) (hb : C'.born = C.born) (hl : C'.lp = C.lp) (hk : ∀ b, b < C.w.heap.size → ¬ C.av b → C'.w.heap[b]? = C.w.heap[b]? ∧ ¬ C'.av b) (hs : C.w.heap.size ≤ C'.w.heap.size)
    {x : AV} {v : Value} (h : VR C x v) : VR C' x v := by
  induction h with
  | fr h => exact .fr (h.mono hk hs)
  | os n e off len v hb' h1 he h => exact .os n e off len v (hb ▸ hb') h1 (by rw [hg]; exact he) (by rw [hg, hβ]; exact h)
  | op n e i j v hb' h1 he h => exact .op n e i j v (hb ▸ hb') h1 (by rw [hg]; exact he) (by rw [hg, hβ]; exact h)
  | yl k l r h => exact .yl k l r (hl ▸ h)
  | agg vs hl h1 _ ih => exact .agg vs hl h1 ih
  | tup vs hl _ ih => exact .tup vs hl ih
  | fn f vs hl _ ih => exact .fn f vs hl ih
theorem BR.turn {C C' : Ctx} (hg : C'.get = C.get) (hβ : C'.β = C.β) (hb : C'.born = C.born) (hl : C'.lp = C.lp) (hk : ∀ b, b < C.w.heap.size → ¬ C.av b → C'.w.heap[b]? = C.w.heap[b]? ∧ ¬ C'.av b) (hs : C.w.heap.size ≤ C'.w.heap.size)
    {n : Nat} {b : Blk} (h : BR C n b) (hh : C'.w.heap[(C.β n).1]? = C.w.heap[(C.β n).1]?) : BR C' n b := by
  unfold BR at h ⊢
  rw [hβ]
  cases hit : b.it with
  | some sp =>
    obtain ⟨s, pos⟩ := sp
    simp only [hit] at h ⊢
    rw [hh]
    exact h
  | none =>
    simp only [hit] at h ⊢
    obtain ⟨cs, fr, h1, h2, h3, h4, h5, h6, h7⟩ := h
    refine ⟨cs, fr, by rw [hh]; exact h1, h2, h3, h4, h5, h6, fun i j hi hj => ?_⟩
    obtain ⟨v, g1, g2, g3⟩ := h7 i j hi hj
    exact ⟨v, g1, g2, g3.turn hg hβ hb hl hk hs⟩

/-- A function's marks: the blocks of its loops' deferred calls. -/
def marked (ds : List Nat) : List Deferred := ds.map fun D => { target := .collected D, args := #[] }
structure Marks (C C' : Ctx) (ds : List Nat) : Prop where
  nodup : ds.Nodup
  new : ∀ D ∈ ds, C.w.heap.size ≤ D
  x : ∀ D ∈ ds, C'.X D
  at' : ∀ D ∈ ds, C'.w.heap[D]? = some (.deferred (some []))
theorem Marks.nil (C C' : Ctx) : Marks C C' [] := ⟨.nil, by simp, by simp, by simp⟩
theorem Marks.mono {C C' C'' : Ctx} {ds : List Nat} (h : Marks C C' ds) (k : Le C' C'') : Marks C C'' ds :=
  ⟨h.nodup, h.new, fun D hD => k.X D (h.x D hD), fun D hD => (k.xkeep D (h.x D hD)).trans (h.at' D hD)⟩
theorem Marks.append {A B C : Ctx} {ds es : List Nat} (gB : Good B) (hAB : Le A B) (h : Marks A B ds) (hBC : Le B C) (k : Marks B C es) : Marks A C (es ++ ds) where
  nodup := List.nodup_append.2 ⟨k.nodup, h.nodup, fun a ha b hb e => by
    subst e
    have h1 := k.new a ha
    have h2 := gB.xlt a (h.x a hb)
    omega⟩
  new := fun D hD => by
    rcases List.mem_append.1 hD with hD | hD
    · exact Nat.le_trans hAB.size (k.new D hD)
    · exact h.new D hD
  x := fun D hD => by
    rcases List.mem_append.1 hD with hD | hD
    · exact k.x D hD
    · exact hBC.X D (h.x D hD)
  at' := fun D hD => by
    rcases List.mem_append.1 hD with hD | hD
    · exact k.at' D hD
    · exact (hBC.xkeep D (h.x D hD)).trans (h.at' D hD)

def shutW (w : World) : List Nat → World
  | [] => w
  | D :: r => shutW (w.putObj D (.deferred none)) r
theorem shutW_spec (ds : List Nat) : ∀ (w : World), (shutW w ds).os = w.os ∧ (shutW w ds).tape = w.tape ∧ (shutW w ds).output = w.output ∧ (shutW w ds).heap.size = w.heap.size ∧ ∀ b, b ∉ ds → (shutW w ds).heap[b]? = w.heap[b]? := by
  induction ds with
  | nil => intro w; exact ⟨rfl, rfl, rfl, rfl, fun _ _ => rfl⟩
  | cons D r ih =>
    intro w
    obtain ⟨a, b, c, d, e⟩ := ih (w.putObj D (.deferred none))
    refine ⟨a, b, c, d.trans (by simp [World.putObj]), fun x hx => ?_⟩
    simp only [List.mem_cons, not_or] at hx
    exact (e x hx.2).trans (World.putObj_heap_other hx.1)

theorem leaves_marked {F : Fence} {n : Nat} {P : Program} {fn : Func} {tmps : Array Value} {R : Ending → World → Prop} (ds : List Nat) (hnd : ds.Nodup) : ∀ (w : World),
    (∀ D ∈ ds, w.heap[D]? = some (.deferred (some []))) → (∃ v, (results fn tmps).run P (shutW w ds) = .ok v (shutW w ds) ∧ R (.returned v) (shutW w ds)) → LeavesInM F n P fn tmps R (marked ds) .returning w := by
  induction ds with
  | nil => intro w _ h; exact h
  | cons D r ih =>
    intro w hw h
    obtain ⟨h1, h2⟩ := List.nodup_cons.1 hnd
    refine ⟨by simp, .inl ⟨D, _, rfl, run_takeDeferred (hw D (by simp)), ih h2 _ (fun E hE => ?_) h⟩⟩
    have hne : E ≠ D := fun e => h1 (e ▸ hE)
    exact (World.putObj_heap_other hne).trans (hw E (by simp [hE]))

/-- Back from a function's end: its marks taken, the caller's X again. -/
def Ctx.leave (C C' : Ctx) (ds : List Nat) : Ctx := { C' with w := shutW C'.w ds, X := C.X }

section
variable {C C' : Ctx} {ds : List Nat}
theorem leave_keep (g' : Good C') (m : Marks C C' ds) (hX : ∀ b, C.X b → C'.X b) (b : Nat) (hb : b < C'.w.heap.size) (hav : ¬ C'.av b) : (C.leave C' ds).w.heap[b]? = C'.w.heap[b]? ∧ ¬ (C.leave C' ds).av b := by
  refine ⟨(shutW_spec ds C'.w).2.2.2.2 b fun h => hav (.inl (.inl (m.x b h))), ?_⟩
  rintro ((h | h) | h)
  · exact hav (.inl (.inl (hX b h)))
  · exact hav (.inl (.inr h))
  · exact hav (.inr h)
theorem leave_size : (C.leave C' ds).w.heap.size = C'.w.heap.size := (shutW_spec ds C'.w).2.2.2.1
theorem leave_vr (g' : Good C') (m : Marks C C' ds) (hX : ∀ b, C.X b → C'.X b) {x : AV} {v : Value} (h : VR C' x v) : VR (C.leave C' ds) x v :=
  VR.turn (C := C') (C' := C.leave C' ds) rfl rfl rfl rfl (leave_keep g' m hX) (Nat.le_of_eq leave_size.symm) h
theorem leave_good (g' : Good C') (m : Marks C C' ds) (hle : Le C C') : Good (C.leave C' ds) where
  blk := fun n b h => BR.turn (C := C') (C' := C.leave C' ds) rfl rfl rfl rfl (leave_keep g' m hle.X) (Nat.le_of_eq leave_size.symm) (g'.blk n b h)
    ((shutW_spec ds C'.w).2.2.2.2 _ fun hd => g'.notX n b h (m.x _ hd))
  inj := g'.inj
  notX := fun n b h hx => g'.notX n b h (hle.X _ hx)
  born := g'.born
  xlt := fun b hb => by rw [leave_size]; exact g'.xlt b (hle.X b hb)
  lpn := g'.lpn
  lp := fun k l r s h1 h2 => (g'.lp k l r s h1 h2).mono ((shutW_spec ds C'.w).2.2.2.2 _ fun hd => (g'.lpX k l r h1).1 (m.x _ hd)) (Nat.le_of_eq leave_size.symm)
  lpX := fun k l r h => ⟨fun hx => (g'.lpX k l r h).1 (hle.X _ hx), (g'.lpX k l r h).2⟩
  lpi := g'.lpi
theorem leave_le (g : Good C) (g' : Good C') (m : Marks C C' ds) (hle : Le C C') : Le C (C.leave C' ds) where
  os := (shutW_spec ds C'.w).1.trans hle.os
  tape := (shutW_spec ds C'.w).2.1.trans hle.tape
  output := (shutW_spec ds C'.w).2.2.1.trans hle.output
  X := fun _ h => h
  size := by rw [leave_size]; exact hle.size
  lp := hle.lp
  xkeep := fun b hb => ((shutW_spec ds C'.w).2.2.2.2 b fun hd => by have := m.new b hd; have := g.xlt b hb; omega).trans (hle.xkeep b hb)
  keep := fun b hb hav => by
    obtain ⟨h1, h2⟩ := hle.keep b hb hav
    refine ⟨((shutW_spec ds C'.w).2.2.2.2 b fun hd => by have := m.new b hd; omega).trans h1, ?_⟩
    exact (leave_keep g' m hle.X b (Nat.lt_of_lt_of_le hb hle.size) h2).2
  born := hle.born
  ep := hle.ep
end

/-! The results. -/
theorem tmps_cell {P : Program} {C : Ctx} (g : Good C) {tm : Slots} {H : AHeap} {a : Array Value} (hH : ∀ n, C.get n = H.get n) (ht : TR C tm a) {r : ResultVar} {y : AV}
    (h : (match r with
      | .tmp t => some (tm.get t)
      | .cell a t => match tm.get a with
        | .op n e i j => (H.get n).bind fun b => if b.ep = e ∧ b.it.isNone ∧ i < b.es.length ∧ j ≤ b.sz then partA P t ((b.es.getD i []).drop j) else none
        | _ => none : Option AV) = some y) :
    ∃ v, (match r with
      | .tmp t => pure (a.getD t undef)
      | .cell b t => do loadVar t (← asAddr (a.getD b undef)) : Sem Value).run P C.w = .ok v C.w ∧ VR C y v := by
  cases r with
  | tmp t =>
    simp only [Option.some.injEq] at h
    subst h
    exact ⟨_, rfl, ht.2 t⟩
  | cell b t =>
    simp only at h
    split at h
    · rename_i n e i j hop
      cases hg : H.get n with
      | none => rw [hg] at h; cases h
      | some blk =>
        rw [hg] at h
        simp only [Option.bind_some] at h
        split at h
        · rename_i hc
          obtain ⟨he, hit, hi, hj⟩ := hc
          have hv := (hop ▸ ht.2 b).op_inv ((hH n).trans hg) he
          obtain ⟨v, hrun, hvr⟩ := partA_load (C := C) h _ _ (owned_cells g ((hH n).trans hg) hit hi hj).2
          refine ⟨v, ?_, hvr⟩
          simp [hv, asAddr, hrun]
        · cases h
    · cases h

end Go.Am
