/- What the abstract machine plans is what the model does: iterators over strings, makes, slices, len, min, max, conversions. -/
import Derived.Test.YtoeemmlfcnokiaaGreatAmOps5
import Derived.IntWalk
set_option linter.all false
set_option linter.deprecated false
namespace Go.Am

theorem run_getObj_iter (P : Program) (w : World) (r : Nat) (s : ByteArray) (pos : Nat) (h : w.heap[r]? = some (.stringIter s pos)) : (getObj r).run P w = .ok (.stringIter s pos) w := by
  simp [getObj, Sem.run, h]
theorem run_setObj_iter (P : Program) (w : World) (r : Nat) (s : ByteArray) (pos : Nat) (o : Obj) (h : w.heap[r]? = some (.stringIter s pos)) : (setObj r o).run P w = .ok () { w with heap := w.heap.setIfInBounds r o } := by
  simp [setObj, Sem.run, h]

section
variable {E : Env} {C : Ctx} {o : Oper} {ρ : Operand → AV} {ev : Operand → Value} {rd : List Nat} {k : List Blk → Option Eff} {bs : List Blk} {ef : Eff}

theorem ok_range (g : Good C) (hρ : ∀ x, VR C (ρ x) (ev x)) {t : TypeId} {x : Operand} (ho : o.op = .range t x) (hp : plan E o ρ = .prim rd k) (hk : k bs = some ef) : EffOK E.P C o ev ef := by
  simp only [plan, ho] at hp
  split at hp
  · rename_i s hu hx
    obtain ⟨rfl, rfl⟩ := prim_inj hp
    simp only [Option.some.injEq] at hk
    subst hk
    have hv := (hx ▸ hρ x).v_inv.1
    intro nm hn
    have hk : ∀ b, b < C.w.heap.size → (C.w.alloc (.stringIter s 0)).heap[b]? = C.w.heap[b]? := fun b hb => heap_alloc_old C.w _ b hb
    have le := Ctx.put_le g (C.w.alloc (.stringIter s 0)) nm C.w.heap.size 0 0 { elem := 0, sz := 0, ep := 0, es := [], it := some (s, 0) } hn (Nat.le_refl _) rfl rfl rfl (by simp) hk
    have gd := Ctx.put_good g (C.w.alloc (.stringIter s 0)) nm C.w.heap.size 0 0 { elem := 0, sz := 0, ep := 0, es := [], it := some (s, 0) } hn (Nat.le_refl _) rfl rfl rfl (by simp) hk (by
      simp only [BR]
      exact ⟨by simp only [Ctx.put, upd_same]; exact heap_alloc_new C.w _, by simp [Ctx.put, upd_same]⟩)
    refine ⟨_, .pointer (some ⟨C.w.heap.size, 0, none⟩), le, gd, rfl, rfl, .inl ?_, .op_mk gd (b := { elem := 0, sz := 0, ep := 0, es := [], it := some (s, 0) }) (by simp [Ctx.put, upd_same]) rfl ?_⟩
    · simp only [execOp, ho, hv, Instr.range, Sem.run_bind, run_underlying hu, Result.andThen_ok, Sem.run_pure, run_newObj_alloc]
      rfl
    · simp [Ctx.put, upd_same]
  · cases hp

theorem ok_next (g : Good C) (hρ : ∀ x, VR C (ρ x) (ev x)) {it : Operand} (ho : o.op = .next it true) (hp : plan E o ρ = .prim rd k) (hbs : rd.mapM C.get = some bs) (hk : k bs = some ef) : EffOK E.P C o ev ef := by
  simp only [plan, ho] at hp
  split at hp
  · rename_i n e hx
    obtain ⟨rfl, rfl⟩ := prim_inj hp
    obtain ⟨b, hb, rfl⟩ := mapM_one hbs
    simp only at hk
    split at hk
    · rename_i s pos hit
      split at hk
      · rename_i he
        have hv := (hx ▸ hρ it).op_inv hb he
        have hbr := g.blk n b hb
        unfold BR at hbr
        simp only [hit] at hbr
        obtain ⟨hh, h0⟩ := hbr
        have hv' : ev it = .pointer (some ⟨(C.β n).1, 0, none⟩) := by rw [hv, h0]; simp
        split at hk
        · rename_i hlt
          simp only [Option.some.injEq] at hk
          subst hk
          intro nm _
          let o' : Obj := .stringIter s (pos + (Utf8.decode s pos).2)
          let w' : World := { C.w with heap := C.w.heap.setIfInBounds (C.β n).1 o' }
          have hs : C.w.heap.size ≤ w'.heap.size := by simp [w']
          have hkk : ∀ k, k < C.w.heap.size → k ≠ (C.β n).1 → w'.heap[k]? = C.w.heap[k]? := fun k _ hne => Array.getElem?_setIfInBounds_ne (fun e => hne e.symm)
          have le := Ctx.wr_le g w' n (C.β n).1 (C.β n).2.1 (C.β n).2.2 { b with it := some (s, pos + (Utf8.decode s pos).2) } b hb (.inl rfl) (Nat.le_refl _) (fun _ => ⟨rfl, rfl, rfl⟩) rfl rfl rfl hs hkk
          have gd := Ctx.wr_good g w' n (C.β n).1 (C.β n).2.1 (C.β n).2.2 { b with it := some (s, pos + (Utf8.decode s pos).2) } b hb (.inl rfl) (Nat.le_refl _) (fun _ => ⟨rfl, rfl, rfl⟩) rfl rfl rfl hs hkk (by
            simp only [BR]
            refine ⟨?_, by simp [Ctx.wr, upd_same, h0]⟩
            have : (C.β n).1 < C.w.heap.size := g.lt hb
            simp [Ctx.wr, upd_same, w', this, o'])
          refine ⟨_, .tuple #[.bool true, goInt pos, .int .i32 (Utf8.decode s pos).1], le, gd, rfl, rfl, .inl ?_, ?_⟩
          · simp only [execOp, ho, hv', Instr.next, Sem.run_bind, run_getObj_iter E.P C.w _ s pos hh, Result.andThen_ok]
            rw [if_pos hlt]
            simp only [Sem.run_bind, run_setObj_iter E.P C.w _ s pos _ hh, Result.andThen_ok, Sem.run_pure]
            rfl
          · refine .tup _ rfl fun i hi => ?_
            simp only [List.length_cons, List.length_nil] at hi
            match i, hi with
            | 0, _ => exact .fr (.v rfl)
            | 1, _ => exact .fr (.v rfl)
            | 2, _ => exact .fr (.v rfl)
        · rename_i hlt
          simp only [Option.some.injEq] at hk
          subst hk
          refine .same g (v := .tuple #[.bool false]) ?_ (.tup _ rfl fun i hi => ?_)
          · simp only [execOp, ho, hv', Instr.next, Sem.run_bind, run_getObj_iter E.P C.w _ s pos hh, Result.andThen_ok]
            rw [if_neg hlt]
            rfl
          · have : i = 0 := by simpa using hi
            subst this
            exact .fr (.v rfl)
      · cases hk
    · cases hk
  · cases hp

theorem wrap64_small (n : Int) (h0 : 0 ≤ n) (h : n ≤ 140737488355328) : IntKind.i64.wrap n = n := by
  exact IntWalk.i64_in _ (by omega)

theorem ok_makeSlice (g : Good C) (hρ : ∀ x, VR C (ρ x) (ev x)) {t : TypeId} {lo co : Operand} (ho : o.op = .makeSlice t lo co) (hp : plan E o ρ = .prim rd k) (hk : k bs = some ef) : EffOK E.P C o ev ef := by
  simp only [plan, ho] at hp
  split at hp
  · rename_i elem kl l kc c hu hl hc
    split at hp
    · rename_i size bytes z hs hby hz
      split at hp
      · rename_i hcond
        obtain ⟨h0, h1, h2, h3, h4, h5⟩ := hcond
        obtain ⟨rfl, rfl⟩ := prim_inj hp
        simp only [Option.some.injEq] at hk
        subst hk
        obtain ⟨i, zv, hi, hzz, hall, rfl⟩ := zeroCells_ok hz
        have hsz : zv.cells.size = size := by simpa using h5
        obtain ⟨i', hi', rfl⟩ := infoBytes_ok hby
        rw [hi] at hi'
        cases hi'
        have hlv := (hl ▸ hρ lo).v_inv.1
        have hcv := (hc ▸ hρ co).v_inv.1
        have hcs : c ≤ 140737488355328 := by
          simp only [roomMax] at h2
          have hb1 : (1 : Int) ≤ (i.bytes : Int) := by omega
          have : 1 * c ≤ (i.bytes : Int) * c := Int.mul_le_mul_of_nonneg_right hb1 (by omega)
          omega
        have hwl := wrap64_small l h0 (by omega)
        have hwc := wrap64_small c (by omega) hcs
        let cells : Array Value := (Array.range (c.toNat * size)).map fun i => zv.cells[i % size]!
        have hrun : (execOp ev o).run E.P C.w = .ok (.value (.slice (some ⟨C.w.heap.size, 0, none⟩) l.toNat c.toNat)) (C.w.alloc (.cells cells elem)) := by
          have hnt : ¬ ((decide (c < 0) || decide ((i.bytes : Int) * c > 2 ^ 48)) = true ∨ decide (l < 0) = true ∨ l > c) := by
            simp only [roomMax] at h2
            simp only [Bool.or_eq_true, decide_eq_true_eq]
            omega
          simp only [execOp, ho, hlv, hcv, Instr.makeSlice, Sem.run_bind, run_underlying hu, Result.andThen_ok, asInt, asIntOf, Sem.run_pure, typeInfo, run_program, hi, hwl, hwc]
          rw [if_neg (by simp only [Bool.or_eq_true, decide_eq_true_eq, roomMax] at h2 ⊢; omega)]
          simp only [Sem.run_bind, run_askRoom, Result.andThen_ok, run_sizeOf' hs]
          by_cases hz0 : c.toNat * size = 0
          · have er : Array.range 0 = #[] := rfl
            simp only [hz0, if_true, Sem.run_bind, Sem.run_pure, Result.andThen_ok, er, Array.map_empty, newRow, run_newObj_alloc, cells]
          · simp only [if_neg hz0, zeroValue, typeInfo, Sem.run_bind, run_program, hi, hzz, Sem.run_pure, Result.andThen_ok, hsz, newRow, run_newObj_alloc, cells]
        intro nm hn
        have hlr : LR C (List.replicate l.toNat (zv.cells.toList.map .v)) size ((List.range (l.toNat * size)).map fun i => zv.cells[i % size]!) := by
          have := LR_zero (C := C) zv hall l.toNat
          rw [hsz] at this
          exact this
        have hle : l.toNat * size ≤ c.toNat * size := Nat.mul_le_mul_right _ (by omega)
        have her : ER C (List.replicate l.toNat (zv.cells.toList.map .v)) size 0 cells := hlr.er (fun k hk => by
          simp only [List.length_map, List.length_range] at hk
          rw [List.getElem?_map, List.getElem?_range hk]
          simp only [cells]
          rw [Array.getElem?_map, Array.getElem?_range, if_pos (by omega)]
          simp)
        obtain ⟨le, gd, vr⟩ := new_slice g nm hn (w' := C.w.alloc (.cells cells elem)) (t := elem) (sz := size) (len := l.toNat) (room := c.toNat) (es := List.replicate l.toNat (zv.cells.toList.map .v)) (0, 0) rfl rfl rfl rfl (fun k _ => by omega) (by simp [cells]) (by simp) (by omega) (by simp only [maxLen]; omega) her
        exact ⟨_, _, le, gd, rfl, rfl, .inl hrun, vr⟩
      · cases hp
    · cases hp
  · cases hp

end
end Go.Am
