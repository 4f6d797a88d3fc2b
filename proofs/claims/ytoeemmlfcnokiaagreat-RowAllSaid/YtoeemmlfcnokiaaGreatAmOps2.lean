/- What the abstract machine plans is what the model does: new variables, loads, stores, fields, elements. -/
import Derived.Test.YtoeemmlfcnokiaaGreatAmOps1
set_option linter.all false
set_option linter.deprecated false
namespace Go.Am

theorem ER_one {C : Ctx} {cs : List AV} {vs : Array Value} (h : CR C cs vs) : ER C [cs] cs.length 0 vs := by
  refine ⟨fun i hi => ?_, fun i j hi hj => ?_⟩
  · have : i = 0 := by simpa using hi
    subst this; rfl
  · have : i = 0 := by simpa using hi
    subst this
    obtain ⟨a, b⟩ := h.2 j hj
    have hj' : j < vs.size := by rw [h.1]; exact hj
    refine ⟨vs.getD j undef, ?_, a, b⟩
    simp [Array.getD_eq_getD_getElem?, hj']

theorem CR_plain {C : Ctx} (vs : Array Value) (h : vs.toList.all plain = true) : CR C (vs.toList.map .v) vs := by
  refine ⟨by simp, fun i hi => ?_⟩
  have hi' : i < vs.size := by simpa using hi
  have hp : plain vs[i] = true := by
    have := List.all_eq_true.1 h (vs[i]) (by simp)
    exact this
  have e : vs.getD i undef = vs[i] := by simp [Array.getD_eq_getD_getElem?, hi']
  rw [e]
  refine ⟨plain_oneCell hp, ?_⟩
  have e2 : (vs.toList.map AV.v).getD i .dead = .v vs[i] := by simp [List.getD_eq_getElem?_getD, hi']
  rw [e2]
  exact .fr (.v hp)

theorem zeroCells_ok {P : Program} {t : TypeId} {zs : List AV} (h : zeroCells P t = some zs) : ∃ i z, P.info? t = some i ∧ i.zero = some z ∧ z.cells.toList.all plain = true ∧ zs = z.cells.toList.map .v := by
  unfold zeroCells at h
  cases hi : P.info? t with
  | none => rw [hi] at h; cases h
  | some i =>
    rw [hi] at h
    simp only [Option.bind_some] at h
    cases hz : i.zero with
    | none => rw [hz] at h; cases h
    | some z =>
      rw [hz] at h
      simp only [Option.bind_some] at h
      split at h
      · exact ⟨i, z, rfl, hz, by assumption, by simpa using h.symm⟩
      · cases h

theorem infoSize_ok {P : Program} {t : TypeId} {s : Nat} (h : infoSize P t = some s) : ∃ i, P.info? t = some i ∧ i.size = s := by
  unfold infoSize at h
  cases hi : P.info? t with
  | none => rw [hi] at h; cases h
  | some i => rw [hi] at h; exact ⟨i, rfl, by simpa using h⟩
theorem infoBytes_ok {P : Program} {t : TypeId} {s : Nat} (h : infoBytes P t = some s) : ∃ i, P.info? t = some i ∧ i.bytes = s := by
  unfold infoBytes at h
  cases hi : P.info? t with
  | none => rw [hi] at h; cases h
  | some i => rw [hi] at h; exact ⟨i, rfl, by simpa using h⟩
theorem run_sizeOf' {P : Program} {t : TypeId} {s : Nat} (h : infoSize P t = some s) (w : World) : (sizeOf t).run P w = .ok s w := by
  obtain ⟨i, hi, rfl⟩ := infoSize_ok h
  simp [sizeOf, typeInfo, hi]
theorem isAggT_ok {P : Program} {t : TypeId} {b : Bool} (h : isAggT P t = some b) (w : World) : (isAgg t).run P w = .ok b w := by
  unfold isAggT at h
  cases hu : P.underlying t with
  | none => rw [hu] at h; cases h
  | some d =>
    rw [hu] at h
    simp only [Option.map_some, Option.some.injEq] at h
    subst h
    simp only [isAgg, Sem.run_bind, run_underlying hu, Result.andThen_ok]
    cases d <;> rfl

section
variable {E : Env} {C : Ctx} {o : Oper} {ρ : Operand → AV} {ev : Operand → Value} {rd : List Nat} {k : List Blk → Option Eff} {bs : List Blk} {ef : Eff}

/-- A new variable. -/
theorem new_var (g : Good C) {cs : List AV} {vs : Array Value} (h : CR C cs vs) (t : TypeId) (w' : World) (ho : w'.os = C.w.os) (ht : w'.tape = C.w.tape) (hu : w'.output = C.w.output) (hh : w'.heap = C.w.heap.push (.cells vs t))
    (hr : (execOp ev o).run E.P C.w = .ok (.value (.pointer (some ⟨C.w.heap.size, 0, none⟩))) w') :
    EffOK E.P C o ev (.new { elem := t, sz := cs.length, ep := 0, es := [cs] } fun n => .op n 0 0 0) := by
  intro nm hn
  obtain ⟨le, gd⟩ := new_row g nm hn w' vs t cs.length 1 (0, 0) [cs] ho ht hu hh (fun k _ => by omega) (by rw [h.1]; omega) (by simp) (by simp [maxLen]) (ER_one h)
  refine ⟨_, _, le, gd, rfl, rfl, .inl hr, ?_⟩
  refine .op_mk gd (b := { elem := t, sz := cs.length, ep := 0, es := [cs] }) (by simp [Ctx.put, upd_same]) rfl ?_
  simp [Ctx.put, upd_same]

theorem ok_alloc (g : Good C) {t : TypeId} (ho : o.op = .alloc t) (hp : plan E o ρ = .prim rd k) (hk : k bs = some ef) : EffOK E.P C o ev ef := by
  simp only [plan, ho] at hp
  split at hp
  · rename_i zs hz
    obtain ⟨rfl, rfl⟩ := prim_inj hp
    simp only [Option.some.injEq] at hk
    subst hk
    obtain ⟨i, z, hi, hzz, hall, rfl⟩ := zeroCells_ok hz
    refine new_var g (CR_plain z.cells hall) t (C.w.alloc (.cells z.cells t)) rfl rfl rfl rfl ?_
    simp [execOp, ho, Instr.alloc, zeroValue, typeInfo, hi, hzz, newVar, newRow]
  · cases hp

theorem ok_box (g : Good C) (hρ : ∀ x, VR C (ρ x) (ev x)) {t : TypeId} {x : Operand} (ho : o.op = .box t x) (hp : plan E o ρ = .prim rd k) (hk : k bs = some ef) : EffOK E.P C o ev ef := by
  simp only [plan, ho] at hp
  split at hp
  · rename_i cs hc
    obtain ⟨rfl, rfl⟩ := prim_inj hp
    simp only [Option.some.injEq] at hk
    subst hk
    refine new_var g (cellsOf_rel (hρ x) hc) t (C.w.alloc (.cells (ev x).cells t)) rfl rfl rfl rfl ?_
    simp [execOp, ho, Instr.box, newVar, newRow]
  · cases hp

/-- Cells of a frozen pointer, of an owned variable: what a load gives. -/
theorem partA_load {P : Program} {C : Ctx} {t : TypeId} {cs : List AV} {y : AV} (hp : partA P t cs = some y) (b o' : Nat)
    (hc : ∀ j, j < cs.length → ∃ c, C.w.cell? ⟨b, o' + j, none⟩ = some c ∧ c.oneCell' = true ∧ VR C (cs.getD j .dead) c) :
    ∃ v, (loadVar t ⟨b, o', none⟩).run P C.w = .ok v C.w ∧ VR C y v := by
  unfold partA at hp
  simp only [Option.bind_eq_bind] at hp
  cases hs : infoSize P t with
  | none => rw [hs] at hp; cases hp
  | some s =>
    rw [hs] at hp
    simp only [Option.bind_some] at hp
    cases ha : isAggT P t with
    | none => rw [ha] at hp; cases hp
    | some agg =>
      rw [ha] at hp
      simp only [Option.bind_some] at hp
      cases agg with
      | true =>
        simp only [if_true] at hp
        split at hp
        · rename_i hle
          simp only [Option.some.injEq] at hp
          subst hp
          let f : Nat → Value := fun j => (C.w.cell? ⟨b, o' + j, none⟩).getD undef
          have hf : ∀ j, j < s → C.w.cell? ((⟨b, o', none⟩ : Addr).add j) = some (f j) := fun j hj => by
            obtain ⟨c, hcc, _⟩ := hc j (by omega)
            have e : (⟨b, o', none⟩ : Addr).add j = ⟨b, o' + j, none⟩ := by unfold Addr.add; split <;> simp_all
            rw [e, hcc]
            simp [f, hcc]
          refine ⟨.agg ((List.range s).map f).toArray, ?_, ?_⟩
          · simp [loadVar, isAggT_ok ha, run_sizeOf' hs, run_loadCells C.w _ s f hf]
          · have key : ∀ i, i < s → (((List.range s).map f).toArray.getD i undef) = f i := fun i hi => by simp [Array.getD_eq_getD_getElem?, hi]
            have hlen : (cs.take s).length = s := by simp [hle]
            refine .agg _ (by simp [hle]) (fun i hi => ?_) (fun i hi => ?_)
            · rw [key i (by omega)]
              obtain ⟨c, h1, h2, _⟩ := hc i (by omega)
              simpa [f, h1] using h2
            · rw [key i (by omega), getD_take, if_pos (by omega)]
              obtain ⟨c, h1, _, h3⟩ := hc i (by omega)
              simpa [f, h1] using h3
        · cases hp
      | false =>
        simp only [Bool.false_eq_true, if_false] at hp
        cases cs with
        | nil => cases hp
        | cons x r =>
          simp only [List.head?_cons, Option.some.injEq] at hp
          subst hp
          obtain ⟨c, h1, _, h3⟩ := hc 0 (by simp)
          refine ⟨c, ?_, h3⟩
          have h1' : C.w.cell? ⟨b, o', none⟩ = some c := by simpa using h1
          simp [loadVar, isAggT_ok ha, h1']

/-- The cells of an owned block's element, from one on. -/
theorem owned_cells (g : Good C) {n : Nat} {b : Blk} (hg : C.get n = some b) (hit : b.it.isNone = true) {i j : Nat} (hi : i < b.es.length) (hj : j ≤ b.sz) :
    (((b.es.getD i []).drop j).length = b.sz - j) ∧ ∀ m, m < ((b.es.getD i []).drop j).length → ∃ c, C.w.cell? ⟨(C.β n).1, (C.β n).2.1 + i * b.sz + j + m, none⟩ = some c ∧ c.oneCell' = true ∧ VR C (((b.es.getD i []).drop j).getD m .dead) c := by
  have hb := g.blk n b hg
  unfold BR at hb
  split at hb
  · rename_i h; rw [h] at hit; cases hit
  · obtain ⟨cs, fr, h1, h2, h3, h4, h5, h6, h7⟩ := hb
    have hl : ((b.es.getD i []).drop j).length = b.sz - j := by rw [List.length_drop, h6 i hi]
    refine ⟨hl, fun m hm => ?_⟩
    obtain ⟨v, e1, e2, e3⟩ := h7 i (j + m) hi (by omega)
    refine ⟨v, ?_, e2, by rw [getD_drop]; exact e3⟩
    rw [cell_of_row C.w _ _ cs b.elem fr h1, ← e1]
    congr 1
    omega

theorem ok_load (g : Good C) (hρ : ∀ x, VR C (ρ x) (ev x)) {t : TypeId} {a : Operand} (ho : o.op = .load t a) (hp : plan E o ρ = .prim rd k) (hbs : rd.mapM C.get = some bs) (hk : k bs = some ef) : EffOK E.P C o ev ef := by
  simp only [plan, ho] at hp
  split at hp
  · rename_i cs hc
    obtain ⟨y, hy, rfl⟩ := opt_ok hp hk
    have hf := (hc ▸ hρ a).fp_inv
    generalize hv : ev a = u at hf
    cases hf with
    | fp b o' c hb hlt hcc h1 hr =>
      obtain ⟨v, hrun, hvr⟩ := partA_load (C := C) hy b o' (fun j hj => ⟨c j, hcc j hj, h1 j hj, .fr (hr j hj)⟩)
      refine .same g (v := v) ?_ hvr
      simp [execOp, ho, hv, Instr.loadAt, Instr.sureAddr, hrun]
  · rename_i n e i j hc
    obtain ⟨rfl, rfl⟩ := prim_inj hp
    obtain ⟨b, hb, rfl⟩ := mapM_one hbs
    simp only at hk
    split at hk
    · rename_i hcond
      obtain ⟨he, hit, hi, hj⟩ := hcond
      cases hpa : partA E.P t ((b.es.getD i []).drop j) with
      | none => rw [hpa] at hk; cases hk
      | some y =>
        rw [hpa] at hk
        simp only [Option.map_some, Option.some.injEq] at hk
        subst hk
        have hv := (hc ▸ hρ a).op_inv hb he
        obtain ⟨v, hrun, hvr⟩ := partA_load (C := C) hpa _ _ (owned_cells g hb hit hi hj).2
        refine .same g (v := v) ?_ hvr
        simp [execOp, ho, hv, Instr.loadAt, Instr.sureAddr, hrun]
    · cases hk
  · cases hp

theorem ok_fieldAddr (g : Good C) (hρ : ∀ x, VR C (ρ x) (ev x)) {s : TypeId} {x : Operand} {f : Nat} (ho : o.op = .fieldAddr s x f) (hp : plan E o ρ = .prim rd k) (hbs : rd.mapM C.get = some bs) (hk : k bs = some ef) : EffOK E.P C o ev ef := by
  simp only [plan, ho] at hp
  split at hp
  · rename_i off ft hfa
    have hfa' : ∃ fs fd, E.P.underlying s = some (.struct fs) ∧ fs[f]? = some fd ∧ fd.offset = off ∧ fd.type = ft := by
      unfold fieldAt? at hfa
      split at hfa
      · rename_i fs hu
        cases hfd : fs[f]? with
        | none => rw [hfd] at hfa; cases hfa
        | some fd =>
          rw [hfd] at hfa
          simp only [Option.map_some, Option.some.injEq, Prod.mk.injEq] at hfa
          exact ⟨fs, fd, hu, hfd, hfa.1, hfa.2⟩
      · cases hfa
    obtain ⟨fs, fd, hu, hfd, rfl, rfl⟩ := hfa'
    have hrun : ∀ (sz : Nat), infoSize E.P fd.type = some (sz + 1) → ∀ ad : Addr, ev x = .pointer (some ad) → (execOp ev o).run E.P C.w = .ok (.value (.pointer (some (ad.add fd.offset)))) C.w := by
      intro sz hsz ad hv
      simp [execOp, ho, hv, Instr.fieldAt, run_underlying hu, hfd, Instr.sureAddr, fieldPlace, run_sizeOf' hsz]
    split at hp
    · rename_i sz n e i j hsz hx
      obtain ⟨b, hb, he, rfl⟩ := live_ok hp hbs hk
      have hv := (hx ▸ hρ x).op_inv hb he
      refine .same g (hrun sz hsz _ hv) (.op_mk g hb he ?_)
      congr 2
      unfold Addr.add
      split
      · rename_i h0; rw [h0]; simp
      · simp [Nat.add_assoc]
    · rename_i sz cs hsz hx
      obtain rfl := val_ok hp hk
      have hf := (hx ▸ hρ x).fp_inv
      generalize hv : ev x = u at hf
      cases hf with
      | fp b o' c hb hlt hcc h1 hr =>
        refine .same g (hrun sz hsz _ hv) ?_
        have e : (⟨b, o', none⟩ : Addr).add fd.offset = ⟨b, o' + fd.offset, none⟩ := by unfold Addr.add; split <;> simp_all
        rw [e]
        refine .fr (.fp b _ (fun j => c (fd.offset + j)) hb hlt (fun j hj => ?_) (fun j hj => h1 _ ?_) fun j hj => ?_)
        · have hj' : fd.offset + j < cs.length := by simp at hj; omega
          rw [← hcc _ hj', Nat.add_assoc]
        · simp at hj; omega
        · have hj' : fd.offset + j < cs.length := by simp at hj; omega
          rw [getD_drop]
          exact hr _ hj'
    · cases hp
  · cases hp

theorem part_rel {P : Program} {t : TypeId} {cs : List AV} {vs : Array Value} {off : Nat} {y : AV} (h : CR C cs vs) (hp : partA P t (cs.drop off) = some y) :
    ∃ v, (part t vs off).run P C.w = .ok v C.w ∧ VR C y v := by
  unfold partA at hp
  simp only [Option.bind_eq_bind] at hp
  cases hs : infoSize P t with
  | none => rw [hs] at hp; cases hp
  | some s =>
    rw [hs] at hp
    simp only [Option.bind_some] at hp
    cases ha : isAggT P t with
    | none => rw [ha] at hp; cases hp
    | some agg =>
      rw [ha] at hp
      simp only [Option.bind_some] at hp
      cases agg with
      | true =>
        simp only [if_true] at hp
        split at hp
        · rename_i hle
          simp only [Option.some.injEq] at hp
          subst hp
          simp only [List.length_drop] at hle
          refine ⟨.agg (vs.extract off (off + s)), ?_, ?_⟩
          · simp [part, isAggT_ok ha, run_sizeOf' hs]
          · by_cases hs0 : s = 0
            · subst hs0
              refine .agg _ (by simp; omega) (fun i hi => by simp at hi) (fun i hi => by simp at hi)
            · exact (h.extract off s (by omega)).agg
        · cases hp
      | false =>
        simp only [Bool.false_eq_true, if_false] at hp
        rw [List.head?_drop] at hp
        have hi : off < cs.length := (List.getElem?_eq_some_iff.1 hp).1
        have := (h.2 off hi).2
        rw [List.getD_eq_getElem?_getD, hp] at this
        refine ⟨_, ?_, this⟩
        have hi' : off < vs.size := by rw [h.1]; exact hi
        simp [part, isAggT_ok ha, hi', Array.getD_eq_getD_getElem?]

theorem ok_field (g : Good C) (hρ : ∀ x, VR C (ρ x) (ev x)) {s : TypeId} {x : Operand} {f : Nat} (ho : o.op = .field s x f) (hp : plan E o ρ = .prim rd k) (hk : k bs = some ef) : EffOK E.P C o ev ef := by
  simp only [plan, ho] at hp
  split at hp
  · rename_i off ft cs hfa hx
    obtain ⟨y, hy, rfl⟩ := opt_ok hp hk
    have hfa' : ∃ fs fd, E.P.underlying s = some (.struct fs) ∧ fs[f]? = some fd ∧ fd.offset = off ∧ fd.type = ft := by
      unfold fieldAt? at hfa
      split at hfa
      · rename_i fs hu
        cases hfd : fs[f]? with
        | none => rw [hfd] at hfa; cases hfa
        | some fd =>
          rw [hfd] at hfa
          simp only [Option.map_some, Option.some.injEq, Prod.mk.injEq] at hfa
          exact ⟨fs, fd, hu, hfd, hfa.1, hfa.2⟩
      · cases hfa
    obtain ⟨fs, fd, hu, hfd, rfl, rfl⟩ := hfa'
    obtain ⟨vs, hv, hl, h1, hr⟩ := (hx ▸ hρ x).agg_inv
    obtain ⟨v, hrun, hvr⟩ := part_rel (C := C) ⟨hl, fun i hi => ⟨h1 i hi, hr i hi⟩⟩ hy
    refine .same g (v := v) ?_ hvr
    simp [execOp, ho, hv, Instr.field, run_underlying hu, hfd, asAgg, hrun]
  · cases hp

end
end Go.Am
