/- What the abstract machine plans is what the model does: stores, elements, literals. -/
import Derived.Test.YtoeemmlfcnokiaaGreatAmOps2
set_option linter.all false
set_option linter.deprecated false
namespace Go.Am

theorem addr_add (b o k : Nat) : (⟨b, o, none⟩ : Addr).add k = ⟨b, o + k, none⟩ := by unfold Addr.add; split <;> simp_all
theorem overV_get? (l : List Value) (cs : Array Value) (o k : Nat) (hk : k < cs.size) : (overV cs o l)[k]? = some (if o ≤ k ∧ k < o + l.length then l.getD (k - o) undef else cs.getD k undef) := by
  rw [← overV_get l cs o k hk]
  rw [Array.getElem?_eq_getElem (by rw [overV_size]; exact hk)]
  simp [Array.getD_eq_getD_getElem?, overV_size, hk]

theorem heap_setCell_row (w : World) (b k : Nat) (v : Value) (cs : Array Value) (t : TypeId) (fr : Nat × Nat) (h : w.heap[b]? = some (.cells cs t fr)) :
    (w.setCell ⟨b, k, none⟩ v).heap = w.heap.setIfInBounds b (.cells (cs.setIfInBounds k v) t fr) := by
  have hb : b < w.heap.size := (Array.getElem?_eq_some_iff.1 h).1
  simp only [World.setCell]
  apply Array.ext_getElem?
  intro i
  rw [Array.getElem?_modify, Array.getElem?_setIfInBounds]
  by_cases hi : b = i
  · subst hi
    rw [if_pos rfl, if_pos rfl, if_pos hb, h]
    rfl
  · rw [if_neg hi, if_neg hi]
theorem set_same (l : Array Obj) (b : Nat) (x y : Obj) : (l.setIfInBounds b x).setIfInBounds b y = l.setIfInBounds b y := by
  apply Array.ext_getElem?
  intro i
  simp only [Array.getElem?_setIfInBounds]
  by_cases hi : b = i
  · subst hi
    simp
  · simp [hi]
theorem set_self (l : Array Obj) (b : Nat) (x : Obj) (h : l[b]? = some x) : l.setIfInBounds b x = l := by
  have hb : b < l.size := (Array.getElem?_eq_some_iff.1 h).1
  apply Array.ext_getElem?
  intro i
  rw [Array.getElem?_setIfInBounds]
  by_cases hi : b = i
  · subst hi
    rw [if_pos rfl, if_pos hb, h]
  · rw [if_neg hi]

theorem run_storeCells (P : Program) (b o : Nat) (t : TypeId) (fr : Nat × Nat) : ∀ (vs : List Value) (i : Nat) (w : World) (cs : Array Value), w.heap[b]? = some (.cells cs t fr) → (∀ k, k < cs.size → ¬ (fr.1 ≤ k ∧ k < fr.2)) → o + i + vs.length ≤ cs.size → (∀ v ∈ vs, v.oneCell' = true) →
    ∃ w', (storeCells ⟨b, o, none⟩ vs i).run P w = .ok () w' ∧ w'.heap = w.heap.setIfInBounds b (.cells (overV cs (o + i) vs) t fr) ∧ w'.os = w.os ∧ w'.tape = w.tape ∧ w'.output = w.output := by
  intro vs
  induction vs with
  | nil =>
    intro i w cs h _ _ _
    exact ⟨w, rfl, (set_self _ _ _ h).symm, rfl, rfl, rfl⟩
  | cons v r ih =>
    intro i w cs h hfr hl h1
    have hlen : o + i < cs.size := by simp at hl; omega
    have hc : w.cell? ⟨b, o + i, none⟩ = some cs[o + i] := by rw [cell_of_row w b _ cs t fr h]; simp [hlen]
    have hf : w.frozen? ⟨b, o + i, none⟩ = false := by
      unfold World.frozen?
      simp only [h]
      have := hfr (o + i) hlen
      obtain ⟨lo, hi⟩ := fr
      simp only at this ⊢
      simp only [Bool.and_eq_false_iff, decide_eq_false_iff_not]
      omega
    have hv : v.oneCell' = true := h1 v (by simp)
    have hh := heap_setCell_row w b (o + i) v cs t fr h
    have h' : (w.setCell ⟨b, o + i, none⟩ v).heap[b]? = some (.cells (cs.setIfInBounds (o + i) v) t fr) := by
      rw [hh]
      have hb := (Array.getElem?_eq_some_iff.1 h).1
      simp [hb]
    obtain ⟨w', hr, e1, e2, e3, e4⟩ := ih (i + 1) _ _ h' (by simpa using hfr) (by simp at hl ⊢; omega) (fun u hu => h1 u (by simp [hu]))
    refine ⟨w', ?_, ?_, e2, e3, e4⟩
    · simp only [storeCells, Sem.run_bind, addr_add, run_store P w _ v .plain hv, hc, hf, Bool.false_eq_true, if_false, Result.andThen_ok]
      exact hr
    · rw [e1, hh, set_same]
      rfl

theorem idx_same {i i' j j' s sz : Nat} (hj : j + s ≤ sz) (hj' : j' < sz) (h1 : i * sz + j ≤ i' * sz + j') (h2 : i' * sz + j' < i * sz + j + s) : i' = i := by
  rcases Nat.lt_trichotomy i i' with h | h | h
  · have : (i + 1) * sz ≤ i' * sz := Nat.mul_le_mul_right sz h
    rw [Nat.add_mul] at this
    omega
  · exact h.symm
  · have : (i' + 1) * sz ≤ i * sz := Nat.mul_le_mul_right sz h
    rw [Nat.add_mul] at this
    omega
theorem idx_lt {i j sz n : Nat} (hi : i < n) (hj : j < sz) : i * sz + j < n * sz := by
  have : (i + 1) * sz ≤ n * sz := Nat.mul_le_mul_right sz hi
  rw [Nat.add_mul] at this
  omega

theorem getD_set {α : Type} (l : List α) (i k : Nat) (x d : α) : (l.set i x).getD k d = if i = k ∧ k < l.length then x else l.getD k d := by
  simp only [List.getD_eq_getElem?_getD, List.getElem?_set]
  by_cases h : i = k
  · subst h
    by_cases h2 : i < l.length
    · simp [h2]
    · simp [h2]
  · simp [h]

section
variable {E : Env} {C : Ctx} {o : Oper} {ρ : Operand → AV} {ev : Operand → Value} {rd : List Nat} {k : List Blk → Option Eff} {bs : List Blk} {ef : Eff}

/-- Cells of one element of an owned block are written: the block lies where it lay. -/
theorem write_row (g : Good C) {n : Nat} {b : Blk} (hg : C.get n = some b) (hit : b.it = none) {w' : World} (es' : List (List AV)) (hlen : es'.length = b.es.length) (cs' : Array Value) (fr : Nat × Nat)
    (ho : w'.os = C.w.os) (ht : w'.tape = C.w.tape) (hu : w'.output = C.w.output) (hfr : ∀ k, k < cs'.size → ¬ (fr.1 ≤ k ∧ k < fr.2))
    (hh : w'.heap = C.w.heap.setIfInBounds (C.β n).1 (.cells cs' b.elem fr)) (hsz : cs'.size = (C.β n).2.1 + (C.β n).2.2 * b.sz) (hroom : b.es.length ≤ (C.β n).2.2) (hmax : (C.β n).2.2 ≤ maxLen)
    (he : ER C es' b.sz (C.β n).2.1 cs') :
    Le C (C.wr w' n (C.β n).1 (C.β n).2.1 (C.β n).2.2 { b with es := es' }) ∧ Good (C.wr w' n (C.β n).1 (C.β n).2.1 (C.β n).2.2 { b with es := es' }) := by
  have hs : C.w.heap.size ≤ w'.heap.size := by rw [hh]; simp
  have hk : ∀ k, k < C.w.heap.size → k ≠ (C.β n).1 → w'.heap[k]? = C.w.heap[k]? := fun k _ hne => by rw [hh, Array.getElem?_setIfInBounds_ne (fun e => hne e.symm)]
  have le := Ctx.wr_le g w' n (C.β n).1 (C.β n).2.1 (C.β n).2.2 { b with es := es' } b hg (.inl rfl) (Nat.le_refl _) (fun _ => ⟨rfl, hlen, rfl⟩) ho ht hu hs hk
  refine ⟨le, Ctx.wr_good g w' n (C.β n).1 (C.β n).2.1 (C.β n).2.2 { b with es := es' } b hg (.inl rfl) (Nat.le_refl _) (fun _ => ⟨rfl, hlen, rfl⟩) ho ht hu hs hk ?_⟩
  have hβ : (C.wr w' n (C.β n).1 (C.β n).2.1 (C.β n).2.2 { b with es := es' }).β n = C.β n := by simp [Ctx.wr, upd_same]
  generalize hC : C.wr w' n (C.β n).1 (C.β n).2.1 (C.β n).2.2 { b with es := es' } = C' at hβ le ⊢
  have hw' : C'.w = w' := by rw [← hC]; rfl
  unfold BR
  simp only [hit]
  refine ⟨cs', fr, ?_, hfr, by rw [hβ]; exact hsz, by rw [hβ, hlen]; exact hroom, by rw [hβ]; exact hmax, he.1, fun i j hi hj => ?_⟩
  · rw [hβ, hw', hh]
    simp [g.lt hg]
  · rw [hβ]
    obtain ⟨v, a, c, d⟩ := he.2 i j hi hj
    exact ⟨v, a, c, d.mono le⟩

theorem row_of (g : Good C) {n : Nat} {b : Blk} (hg : C.get n = some b) (hit : b.it = none) : ∃ (cs : Array Value) (fr : Nat × Nat), C.w.heap[(C.β n).1]? = some (.cells cs b.elem fr) ∧ (∀ k, k < cs.size → ¬ (fr.1 ≤ k ∧ k < fr.2)) ∧
      cs.size = (C.β n).2.1 + (C.β n).2.2 * b.sz ∧ b.es.length ≤ (C.β n).2.2 ∧ (C.β n).2.2 ≤ maxLen ∧ ER C b.es b.sz (C.β n).2.1 cs := by
  have hb := g.blk n b hg
  unfold BR at hb
  simp only [hit] at hb
  obtain ⟨cs, fr, h1, h2, h3, h4, h5, h6, h7⟩ := hb
  exact ⟨cs, fr, h1, h2, h3, h4, h5, h6, h7⟩

theorem vr_undef : VR C (.tup []) undef := .tup #[] rfl fun i hi => by simp at hi

theorem ER.write {es : List (List AV)} {sz o' : Nat} {cs : Array Value} (h : ER C es sz o' cs) {i j : Nat} {ps : List AV} {us : Array Value} (hp : CR C ps us) (hi : i < es.length) (hj : j + ps.length ≤ sz) (hroom : o' + es.length * sz ≤ cs.size) :
    ER C (es.set i (setCells (es.getD i []) j ps)) sz o' (overV cs (o' + i * sz + j) us.toList) := by
  have hl : us.toList.length = ps.length := by simpa using hp.1
  refine ⟨fun i' hi' => ?_, fun i' j' hi' hj' => ?_⟩
  · rw [List.length_set] at hi'
    rw [getD_set]
    split
    · rw [setCells_length _ _ _ (by rw [h.1 i hi]; omega)]
      exact h.1 i hi
    · exact h.1 i' hi'
  · rw [List.length_set] at hi'
    have hlt : o' + i' * sz + j' < cs.size := by have := idx_lt hi' hj'; omega
    rw [overV_get? _ _ _ _ hlt, getD_set]
    obtain ⟨v, a, b, c⟩ := h.2 i' j' hi' hj'
    by_cases hin : o' + i * sz + j ≤ o' + i' * sz + j' ∧ o' + i' * sz + j' < o' + i * sz + j + us.toList.length
    · rw [if_pos hin]
      have e : i' = i := idx_same (j := j) (s := ps.length) hj hj' (by omega) (by omega)
      subst e
      rw [if_pos ⟨rfl, hi⟩, setCells_get _ _ _ (by rw [h.1 i' hi]; omega), if_pos (by omega)]
      have := hp.2 (j' - j) (by omega)
      refine ⟨_, rfl, ?_, ?_⟩
      · rw [show o' + i' * sz + j' - (o' + i' * sz + j) = j' - j by omega]
        simpa [Array.getD_eq_getD_getElem?, List.getD_eq_getElem?_getD] using this.1
      · rw [show o' + i' * sz + j' - (o' + i' * sz + j) = j' - j by omega]
        simpa [Array.getD_eq_getD_getElem?, List.getD_eq_getElem?_getD] using this.2
    · rw [if_neg hin]
      have hcv : cs.getD (o' + i' * sz + j') undef = v := by simp [Array.getD_eq_getD_getElem?, a]
      refine ⟨v, by rw [hcv], b, ?_⟩
      by_cases e : i = i'
      · subst e
        rw [if_pos ⟨rfl, hi⟩, setCells_get _ _ _ (by rw [h.1 i hi]; omega), if_neg (by omega)]
        exact c
      · rw [if_neg (fun x => e x.1)]
        exact c

theorem isNone_eq {α : Type} {x : Option α} (h : x.isNone = true) : x = none := by cases x <;> simp_all

theorem ok_store (g : Good C) (hρ : ∀ x, VR C (ρ x) (ev x)) {t : TypeId} {a x : Operand} (ho : o.op = .store t a x) (hp : plan E o ρ = .prim rd k) (hbs : rd.mapM C.get = some bs) (hk : k bs = some ef) : EffOK E.P C o ev ef := by
  simp only [plan, ho] at hp
  split at hp
  · rename_i n e i j cs s ha hc hs
    obtain ⟨rfl, rfl⟩ := prim_inj hp
    obtain ⟨b, hb, rfl⟩ := mapM_one hbs
    simp only at hk
    split at hk
    · rename_i hcond
      obtain ⟨he, hit, hi, hl, hj⟩ := hcond
      simp only [Option.some.injEq] at hk
      subst hk
      have hv := (ha ▸ hρ a).op_inv hb he
      have hr := cellsOf_rel (hρ x) hc
      obtain ⟨arr, fr, h1, h2, h3, h4, h5, h6⟩ := row_of g hb (isNone_eq hit)
      have hin : (C.β n).2.1 + i * b.sz + j + (ev x).cells.toList.length ≤ arr.size := by
        have e1 : (ev x).cells.toList.length = s := by simp [hr.1, hl]
        have e2 : (i + 1) * b.sz ≤ (C.β n).2.2 * b.sz := Nat.mul_le_mul_right _ (by omega)
        rw [Nat.add_mul] at e2
        omega
      have hone : ∀ v ∈ (ev x).cells.toList, v.oneCell' = true := by
        intro v hv
        obtain ⟨m, hm, rfl⟩ := List.getElem_of_mem hv
        have hm' : m < cs.length := by simpa [hr.1] using hm
        have := (hr.2 m hm').1
        have hm2 : m < (ev x).cells.size := by simpa using hm
        simpa [Array.getD_eq_getD_getElem?, hm2] using this
      obtain ⟨w', hrun, e1, e2, e3, e4⟩ := run_storeCells E.P (C.β n).1 ((C.β n).2.1 + i * b.sz + j) b.elem fr (ev x).cells.toList 0 C.w arr h1 h2 (by simpa using hin) hone
      intro nm _
      have hw := h6.write hr hi (by omega : j + cs.length ≤ b.sz) (by have := Nat.mul_le_mul_right b.sz h4; omega)
      obtain ⟨le, gd⟩ := write_row g hb (isNone_eq hit) (w' := w') (b.es.set i (setCells (b.es.getD i []) j cs)) (by simp) (overV arr ((C.β n).2.1 + i * b.sz + j) (ev x).cells.toList) fr e2 e3 e4 (by rw [overV_size]; exact h2) (by simpa using e1) (by rw [overV_size]; exact h3) h4 h5 hw
      refine ⟨_, undef, le, gd, rfl, rfl, .inr ⟨?_, rfl⟩, vr_undef⟩
      have hsz : (ev x).cells.size = s := by rw [hr.1, hl]
      simp only [execOp, ho, hv, Instr.storeAt, Instr.sureAddr, storeVar, Sem.run_bind, Sem.run_pure, Result.andThen_ok, run_sizeOf' hs, hsz, ne_eq, not_true_eq_false, if_false, hrun]
      rfl
    · cases hk
  · cases hp

end
end Go.Am
