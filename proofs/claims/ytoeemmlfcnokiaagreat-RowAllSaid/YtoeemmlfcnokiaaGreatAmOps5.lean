/- What the abstract machine plans is what the model does: literals, makes, iterators over strings. -/
import Derived.Test.YtoeemmlfcnokiaaGreatAmOps4
set_option linter.all false
set_option linter.deprecated false
namespace Go.Am

/-- Cells of a row, element by element, in a list. -/
def LR (C : Ctx) (es : List (List AV)) (sz : Nat) (vs : List Value) : Prop :=
  vs.length = es.length * sz ∧ (∀ i, i < es.length → (es.getD i []).length = sz) ∧
    ∀ i j, i < es.length → j < sz → ∃ v, vs[i * sz + j]? = some v ∧ v.oneCell' = true ∧ VR C ((es.getD i []).getD j .dead) v
theorem LR.er {C : Ctx} {es : List (List AV)} {sz : Nat} {vs : List Value} (h : LR C es sz vs) {cs : Array Value} {o : Nat} (hc : ∀ k, k < vs.length → cs[o + k]? = vs[k]?) : ER C es sz o cs := by
  refine ⟨h.2.1, fun i j hi hj => ?_⟩
  obtain ⟨v, a, b, c⟩ := h.2.2 i j hi hj
  refine ⟨v, ?_, b, c⟩
  rw [← a, ← hc _ (by rw [h.1]; exact idx_lt hi hj), Nat.add_assoc]
theorem LR.append {C : Ctx} {es fs : List (List AV)} {sz : Nat} {vs us : List Value} (h : LR C es sz vs) (k : LR C fs sz us) : LR C (es ++ fs) sz (vs ++ us) := by
  refine ⟨by rw [List.length_append, List.length_append, h.1, k.1, Nat.add_mul], fun i hi => ?_, fun i j hi hj => ?_⟩
  · rw [getD_append]
    split
    · exact h.2.1 i (by assumption)
    · exact k.2.1 _ (by simp at hi; omega)
  · rw [getD_append]
    by_cases hc : i < es.length
    · rw [if_pos hc]
      obtain ⟨v, a, b, c⟩ := h.2.2 i j hc hj
      refine ⟨v, ?_, b, c⟩
      rw [List.getElem?_append_left (by rw [h.1]; exact idx_lt hc hj)]
      exact a
    · rw [if_neg hc]
      have hi' : i - es.length < fs.length := by simp at hi; omega
      obtain ⟨v, a, b, c⟩ := k.2.2 _ j hi' hj
      refine ⟨v, ?_, b, c⟩
      have e : i * sz = es.length * sz + (i - es.length) * sz := by rw [← Nat.add_mul]; congr 1; omega
      rw [List.getElem?_append_right (by rw [h.1]; omega), h.1, show i * sz + j - es.length * sz = (i - es.length) * sz + j by omega]
      exact a
theorem SR.vals {C : Ctx} {es : List (List AV)} {v : Value} {sz : Nat} (h : SR C es v sz) :
    ∃ a cap vs, v = .slice a es.length cap ∧ es.length ≤ cap ∧ cap ≤ maxLen ∧ LR C es sz vs ∧ (∀ u ∈ vs, u.oneCell' = true) ∧
      (es ≠ [] → ∃ b o, a = some ⟨b, o, none⟩ ∧ ∀ k u, vs[k]? = some u → C.w.cell? ⟨b, o + k, none⟩ = some u) := by
  obtain ⟨a, b, o, cap, rfl, h1, h2, h3, h4, h5⟩ := h
  let f : Nat → Value := fun k => (C.w.cell? ⟨b, o + k, none⟩).getD undef
  have key : ∀ k, k < es.length * sz → ∃ c, C.w.cell? ⟨b, o + k, none⟩ = some c ∧ c.oneCell' = true ∧ VR C ((es.getD (k / sz) []).getD (k % sz) .dead) c := fun k hk => by
    have hsz : 0 < sz := Nat.pos_of_ne_zero (fun e => by subst e; simp at hk)
    have hi : k / sz < es.length := Nat.div_lt_of_lt_mul (by rw [Nat.mul_comm]; exact hk)
    obtain ⟨c, a, b, d⟩ := h5 (k / sz) (k % sz) hi (Nat.mod_lt _ hsz)
    refine ⟨c, ?_, b, d⟩
    rw [← a]
    congr 2
    have := Nat.div_add_mod k sz
    rw [Nat.mul_comm] at this
    omega
  refine ⟨a, cap, (List.range (es.length * sz)).map f, rfl, h1, h2, ⟨by simp, h4, fun i j hi hj => ?_⟩, fun u hu => ?_, fun hne => ⟨b, o, h3 hne, fun k u hu => ?_⟩⟩
  · have hlt := idx_lt hi hj
    obtain ⟨c, a1, b1, d1⟩ := h5 i j hi hj
    refine ⟨c, ?_, b1, d1⟩
    rw [List.getElem?_map, List.getElem?_range hlt]
    simp only [Option.map_some, f]
    rw [← Nat.add_assoc, a1]
    rfl
  · obtain ⟨k, hk, rfl⟩ := List.mem_map.1 hu
    obtain ⟨c, a1, b1, _⟩ := key k (List.mem_range.1 hk)
    simp only [f, a1]
    exact b1
  · have hk : k < es.length * sz := by
      have := (List.getElem?_eq_some_iff.1 hu).1
      simpa using this
    rw [List.getElem?_map, List.getElem?_range hk] at hu
    simp only [Option.map_some, Option.some.injEq, f] at hu
    obtain ⟨c, a1, _⟩ := key k hk
    rw [← hu, a1]
    rfl
theorem LR_zero {C : Ctx} (z : Value) (hall : z.cells.toList.all plain = true) (n : Nat) : LR C (List.replicate n (z.cells.toList.map .v)) z.cells.size ((List.range (n * z.cells.size)).map fun i => z.cells[i % z.cells.size]!) := by
  refine ⟨by simp, fun i hi => ?_, fun i j hi hj => ?_⟩
  · rw [List.length_replicate] at hi
    simp [List.getD_eq_getElem?_getD, hi]
  · rw [List.length_replicate] at hi
    have hlt := idx_lt hi hj
    have hm : (i * z.cells.size + j) % z.cells.size = j := by
      rw [Nat.add_comm, Nat.add_mul_mod_self_right, Nat.mod_eq_of_lt hj]
    have hp : plain z.cells[j] = true := List.all_eq_true.1 hall _ (by simp)
    refine ⟨z.cells[j], ?_, plain_oneCell hp, ?_⟩
    · rw [List.getElem?_map, List.getElem?_range hlt]
      simp [hm, hj]
    · have : ((List.replicate n (z.cells.toList.map AV.v)).getD i []).getD j .dead = .v z.cells[j] := by
        simp [List.getD_eq_getElem?_getD, hi, hj]
      rw [this]
      exact .fr (.v hp)

section
variable {E : Env} {C : Ctx} {o : Oper} {ρ : Operand → AV} {ev : Operand → Value} {rd : List Nat} {k : List Blk → Option Eff} {bs : List Blk} {ef : Eff}

theorem PR_map (hρ : ∀ x, VR C (ρ x) (ev x)) : ∀ l : List (Nat × Operand), PR C (l.map fun p => (p.1, ρ p.2)) (l.map fun p => (p.1, ev p.2))
  | [] => .nil
  | p :: l => .cons ⟨rfl, hρ p.2⟩ (PR_map hρ l)

theorem mapM_places {P : Program} {w : World} : ∀ (l : List Field) (ps : List (Nat × Nat)), placesA P l = some ps → (l.mapM (fun f => (do pure (f.offset, ← sizeOf f.type) : Sem (Nat × Nat)))).run P w = .ok ps w
  | [], ps, h => by simp only [placesA, Option.some.injEq] at h; subst h; simp
  | f :: l, ps, h => by
    simp only [placesA, Option.bind_eq_bind] at h
    cases hs : infoSize P f.type with
    | none => rw [hs] at h; cases h
    | some s =>
      rw [hs] at h
      simp only [Option.bind_some] at h
      cases hp : placesA P l with
      | none => rw [hp] at h; cases h
      | some qs =>
        rw [hp] at h
        simp only [Option.bind_some, Option.some.injEq] at h
        subst h
        have ih := mapM_places (w := w) l qs hp
        rw [List.mapM_cons]
        simp only [Sem.run_bind, run_sizeOf' hs, Result.andThen_ok, Sem.run_pure, ih]

theorem ok_build (g : Good C) (hρ : ∀ x, VR C (ρ x) (ev x)) {t : TypeId} {parts : Array (Nat × Operand)} (ho : o.op = .build t parts) (hp : plan E o ρ = .prim rd k) (hk : k bs = some ef) : EffOK E.P C o ev ef := by
  have hpr := PR_map hρ parts.toList
  simp only [plan, ho] at hp
  split at hp
  · rename_i z fields hz hu
    split at hp
    · rename_i ps hps
      obtain ⟨y, hy, rfl⟩ := opt_ok hp hk
      cases hf : fillA (fun i => ps[i]?) z (parts.toList.map fun p => (p.1, ρ p.2)) with
      | none => rw [hf] at hy; cases hy
      | some cs' =>
        rw [hf] at hy
        simp only [Option.map_some, Option.some.injEq] at hy
        subst hy
        obtain ⟨i, zv, hi, hzz, hall, rfl⟩ := zeroCells_ok hz
        obtain ⟨arr', h1, h2⟩ := fill_rel hpr (CR_plain zv.cells hall) hf
        refine .same g (v := .agg arr') ?_ h2.agg
        have hm := mapM_places (w := C.w) fields.toList ps hps
        simp only [execOp, ho, Instr.build, Sem.run_bind, zeroValue, typeInfo, run_program, Result.andThen_ok, hi, Sem.run_pure, hzz, run_underlying hu]
        rw [Array.mapM_eq_mapM_toList]
        simp only [Sem.run_map, hm, Result.andThen_ok, List.getElem?_toArray, Array.toList_map]
        rw [h1]
        rfl
    · cases hp
  · rename_i z len elem hz hu
    split at hp
    · rename_i size hs
      obtain ⟨y, hy, rfl⟩ := opt_ok hp hk
      cases hf : fillA (fun i => some (i * size, size)) z (parts.toList.map fun p => (p.1, ρ p.2)) with
      | none => rw [hf] at hy; cases hy
      | some cs' =>
        rw [hf] at hy
        simp only [Option.map_some, Option.some.injEq] at hy
        subst hy
        obtain ⟨i, zv, hi, hzz, hall, rfl⟩ := zeroCells_ok hz
        obtain ⟨arr', h1, h2⟩ := fill_rel hpr (CR_plain zv.cells hall) hf
        refine .same g (v := .agg arr') ?_ h2.agg
        simp only [execOp, ho, Instr.build, Sem.run_bind, zeroValue, typeInfo, run_program, Result.andThen_ok, hi, Sem.run_pure, hzz, run_underlying hu, run_sizeOf' hs, Array.toList_map]
        rw [h1]
        rfl
    · cases hp
  · cases hp

/-- Cells of whole elements, one by one. -/
theorem fillE_rel {C : Ctx} {size : Nat} (hsz : 0 < size) {ps : List (Nat × AV)} {vs : List (Nat × Value)} (hp : PR C ps vs) :
    ∀ {es es' : List (List AV)} {arr : Array Value}, arr.size = es.length * size → ER C es size 0 arr → fillE size es ps = some es' →
      ∃ arr', Instr.fill (fun i => some (i * size, size)) arr vs = some arr' ∧ arr'.size = arr.size ∧ es'.length = es.length ∧ ER C es' size 0 arr' := by
  induction hp with
  | nil =>
    intro es es' arr _ h hf
    simp only [fillE, Option.some.injEq] at hf
    subst hf
    exact ⟨arr, rfl, rfl, rfl, h⟩
  | @cons p q ps vs hpq _ ih =>
    intro es es' arr hl h hf
    obtain ⟨i, x⟩ := p
    obtain ⟨i', v⟩ := q
    obtain ⟨rfl, hv⟩ := hpq
    simp only [fillE, Option.bind_eq_bind] at hf
    cases hcx : cellsOf x with
    | none => rw [hcx] at hf; cases hf
    | some pc =>
      rw [hcx] at hf
      simp only [Option.bind_some] at hf
      split at hf
      · rename_i hcond
        obtain ⟨hpl, hi⟩ := hcond
        have hr : CR C pc v.cells := cellsOf_rel hv hcx
        have hw := h.write hr hi (j := 0) (by omega) (by omega)
        have hset : setCells (es.getD i []) 0 pc = pc := by
          unfold setCells
          rw [List.take_zero, List.nil_append, Nat.zero_add, List.drop_eq_nil_of_le (by rw [h.1 i hi, hpl]; exact Nat.le_refl _), List.append_nil]
        rw [hset] at hw
        have e0 : 0 + i * size + 0 = i * size := by omega
        rw [e0] at hw
        have e1 : v.cells.size = size := by have := hr.1; omega
        have hlt : i * size + size ≤ arr.size := by rw [hl]; have := idx_lt (sz := size) (j := size - 1) hi (by omega); omega
        obtain ⟨arr', h1, h2, h3, h4⟩ := ih (arr := overV arr (i * size) v.cells.toList) (by rw [overV_size, hl, List.length_set]) hw hf
        refine ⟨arr', ?_, by rw [h2, overV_size], by rw [h3, List.length_set], h4⟩
        show Instr.fill (fun i => some (i * size, size)) arr ((i, v) :: vs) = some arr'
        simp only [Instr.fill]
        rw [if_neg (by simp only [Bool.or_eq_true, decide_eq_true_eq]; omega)]
        rw [← h1]
        congr 1
        rw [← Array.foldl_toList, Array.toList_zipIdx]
        exact foldl_set_eq v.cells.toList arr (i * size) 0
      · cases hf

theorem map_range_list (n : Nat) (f : Nat → Value) : (Array.range n).map f = ((List.range n).map f).toArray := by
  apply Array.ext'
  simp

/-- A new row behind a slice value. -/
theorem new_slice (g : Good C) (nm : Nat) (hn : ¬ C.born nm) {w' : World} {cs : Array Value} {t sz len room : Nat} {es : List (List AV)} (fr : Nat × Nat)
    (ho : w'.os = C.w.os) (ht : w'.tape = C.w.tape) (hu : w'.output = C.w.output) (hh : w'.heap = C.w.heap.push (.cells cs t fr)) (hfr : ∀ k, k < cs.size → ¬ (fr.1 ≤ k ∧ k < fr.2))
    (hsz : cs.size = room * sz) (hl : es.length = len) (hr : len ≤ room) (hm : room ≤ maxLen) (he : ER C es sz 0 cs) :
    let C' := C.put w' nm C.w.heap.size 0 room { elem := t, sz, ep := 0, es }
    Le C C' ∧ Good C' ∧ VR C' (.os nm 0 0 len) (.slice (some ⟨C.w.heap.size, 0, none⟩) len room) := by
  obtain ⟨le, gd⟩ := new_row g nm hn w' cs t sz room fr es ho ht hu hh hfr hsz (by omega) hm he
  refine ⟨le, gd, .os_mk gd (b := { elem := t, sz, ep := 0, es }) (by simp [Ctx.put, upd_same]) rfl rfl ?_ hr fun _ => ?_⟩
  · simp [Ctx.put, upd_same]
  · simp [Ctx.put, upd_same]

theorem ok_buildSlice (g : Good C) (hρ : ∀ x, VR C (ρ x) (ev x)) {t : TypeId} {len : Nat} {parts : Array (Nat × Operand)} (ho : o.op = .buildSlice t len parts) (hp : plan E o ρ = .prim rd k) (hk : k bs = some ef) : EffOK E.P C o ev ef := by
  have hpr := PR_map hρ parts.toList
  simp only [plan, ho] at hp
  split at hp
  · rename_i elem hu
    split at hp
    · rename_i size z hs hz
      split at hp
      · cases hp
      · rename_i hc
        obtain ⟨rfl, rfl⟩ := prim_inj hp
        simp only at hk
        obtain ⟨i, zv, hi, hzz, hall, rfl⟩ := zeroCells_ok hz
        have hsz : zv.cells.size = size := by
          have : ¬ ((zv.cells.toList.map AV.v).length ≠ size) := fun h => hc (.inr (.inr h))
          simpa using this
        have hpos : 0 < size := Nat.pos_of_ne_zero fun h => hc (.inr (.inl h))
        have h24 : ¬ (len * size > 2 ^ 24) := fun h => hc (.inl h)
        cases hf : fillE size (List.replicate len (zv.cells.toList.map .v)) (parts.toList.map fun p => (p.1, ρ p.2)) with
        | none => rw [hf] at hk; cases hk
        | some es =>
          rw [hf] at hk
          simp only [Option.map_some, Option.some.injEq] at hk
          have hlr : LR C (List.replicate len (zv.cells.toList.map .v)) size ((List.range (len * size)).map fun i => zv.cells[i % size]!) := by
            have := LR_zero (C := C) zv hall len
            rw [hsz] at this
            exact this
          have her : ER C (List.replicate len (zv.cells.toList.map .v)) size 0 ((Array.range (len * size)).map fun i => zv.cells[i % size]!) := by
            rw [map_range_list]
            exact hlr.er (fun k hk => by simp)
          obtain ⟨arr', h1, h2, h3, h4⟩ := fillE_rel hpos hpr (by simp) her hf
          rw [List.length_replicate] at h3
          have hasz : arr'.size = len * size := by rw [h2]; simp
          have hrun : (execOp ev o).run E.P C.w = .ok (.value (.slice (some ⟨C.w.heap.size, 0, none⟩) len len)) (C.w.alloc (.cells arr' elem)) := by
            simp only [execOp, ho, Instr.buildSlice, Sem.run_bind, run_underlying hu, Result.andThen_ok, run_sizeOf' hs]
            rw [if_neg h24]
            by_cases h0 : len * size = 0
            · have e0 : (Array.range (len * size)).map (fun i => zv.cells[i % size]!) = #[] := by simp [h0]
              rw [e0] at h1
              have er : Array.range 0 = #[] := rfl
              simp only [h0, if_true, Sem.run_bind, Sem.run_pure, Result.andThen_ok, Array.toList_map, er, Array.map_empty]
              simp only [h1, newRow, Sem.run_bind, run_newObj_alloc, Result.andThen_ok, Sem.run_pure]
            · simp only [Sem.run_bind, if_neg h0, zeroValue, typeInfo, run_program, hi, hzz, Sem.run_pure, Result.andThen_ok, Array.toList_map, hsz]
              simp only [h1, newRow, Sem.run_bind, run_newObj_alloc, Result.andThen_ok, Sem.run_pure]
          split at hk
          · rename_i h0
            subst hk
            refine .grow g hrun rfl rfl rfl (by simp) (fun b hb => heap_alloc_old C.w _ b hb) ?_
            subst h0
            exact .fr (.e0 _)
          · subst hk
            intro nm hn
            have hm : len ≤ maxLen := by
              have : len ≤ len * size := Nat.le_mul_of_pos_right _ hpos
              simp only [maxLen]
              omega
            obtain ⟨le, gd, vr⟩ := new_slice g nm hn (w' := C.w.alloc (.cells arr' elem)) (t := elem) (sz := size) (len := len) (room := len) (es := es) (0, 0) rfl rfl rfl rfl (fun k _ => by omega) hasz h3 (Nat.le_refl _) hm h4
            exact ⟨_, _, le, gd, rfl, rfl, .inl hrun, vr⟩
    · cases hp
  · cases hp

end
end Go.Am
