/- What the abstract machine plans is what the model does: len, cap, min, max, conversions. -/
import Derived.Test.YtoeemmlfcnokiaaGreatAmOps7
set_option linter.all false
set_option linter.deprecated false
namespace Go.Am

section
variable {E : Env} {C : Ctx} {o : Oper} {ρ : Operand → AV} {ev : Operand → Value} {rd : List Nat} {k : List Blk → Option Eff} {bs : List Blk} {ef : Eff}

theorem exec_builtin {P : Program} {w : World} {c : Call} {b : Builtin} (ho : o.op = .call c) (hc : c.callee = .builtin b) :
    (execOp ev o).run P w = (builtin b c.argTypes o.type (c.args.map fun | .const _ => true | _ => false) (c.args.map ev)).run P w := by
  simp only [execOp, ho, resolve, hc, Sem.run_bind, Sem.run_pure, Result.andThen_ok, invoke]
  rfl

theorem args_one (hρ : ∀ x, VR C (ρ x) (ev x)) {args : Array Operand} {x : AV} (h : args.toList.map ρ = [x]) : ∃ v, args.map ev = #[v] ∧ VR C x v := by
  obtain ⟨l⟩ := args
  match l, h with
  | [a], h =>
    simp only [List.map_cons, List.map_nil, List.cons.injEq, and_true] at h
    exact ⟨ev a, by simp, h ▸ hρ a⟩
theorem args_two (hρ : ∀ x, VR C (ρ x) (ev x)) {args : Array Operand} {x y : AV} (h : args.toList.map ρ = [x, y]) : ∃ v u, args.map ev = #[v, u] ∧ VR C x v ∧ VR C y u := by
  obtain ⟨l⟩ := args
  match l, h with
  | [a, b], h =>
    simp only [List.map_cons, List.map_nil, List.cons.injEq, and_true] at h
    exact ⟨ev a, ev b, by simp, h.1 ▸ hρ a, h.2 ▸ hρ b⟩
theorem types_one {ts : Array TypeId} {t : TypeId} (h : ts.toList = [t]) : ts = #[t] := by
  obtain ⟨l⟩ := ts
  simpa using h
theorem types_two {ts : Array TypeId} {t u : TypeId} (h : ts.toList = [t, u]) : ts = #[t, u] := by
  obtain ⟨l⟩ := ts
  simpa using h

theorem allPlain_args (hρ : ∀ x, VR C (ρ x) (ev x)) : ∀ {l : List Operand} {vs : List Value}, allPlain (l.map ρ) = some vs → l.map ev = vs
  | [], vs, h => by simpa [allPlain] using h
  | a :: l, vs, h => by
    simp only [List.map_cons] at h
    cases ha : ρ a with
    | v x =>
      rw [ha] at h
      simp only [allPlain] at h
      cases hr : allPlain (l.map ρ) with
      | none => rw [hr] at h; cases h
      | some us =>
        rw [hr] at h
        simp only [Option.map_some, Option.some.injEq] at h
        subst h
        have := (ha ▸ hρ a).v_inv.1
        simp [this, allPlain_args hρ hr]
    | _ => rw [ha] at h; simp [allPlain] at h

theorem ok_minmax (g : Good C) (hρ : ∀ x, VR C (ρ x) (ev x)) {c : Call} {b : Builtin} {f : Array TypeId → TypeId → Array Value → Sem Value} (ho : o.op = .call c) (hc : c.callee = .builtin b)
    (hb : ∀ ts t cs args, builtin b ts t cs args = (do pure (.value (← f ts t args))))
    (hp : (match allPlain (c.args.toList.map ρ) with | some vs => Plan.opt (plainV (det E.P (f c.argTypes o.type vs.toArray))) | none => .bad) = .prim rd k) (hk : k bs = some ef) : EffOK E.P C o ev ef := by
  split at hp
  · rename_i vs hvs
    obtain ⟨y, hy, rfl⟩ := opt_ok hp hk
    obtain ⟨v, hd, hpl, rfl⟩ := plainV_ok hy
    have ha : c.args.map ev = vs.toArray := by
      apply Array.ext'
      simpa using allPlain_args hρ hvs
    refine .same g (v := v) ?_ (.fr (.v hpl))
    rw [exec_builtin ho hc, hb, ha]
    simp only [Sem.run_bind, det_run hd, Result.andThen_ok, Sem.run_pure]
  · cases hp

theorem ok_len_cap (g : Good C) (hρ : ∀ x, VR C (ρ x) (ev x)) {c : Call} (ho : o.op = .call c) {b : Builtin} (hc : c.callee = .builtin b) (hb : b ≠ .append ∧ b ≠ .copy)
    (hp : plan E o ρ = .prim rd k) (hbs : rd.mapM C.get = some bs) (hk : k bs = some ef) : EffOK E.P C o ev ef := by
  simp only [plan, ho, hc, builtinA] at hp
  split at hp
  · rename_i s t ha ht
    obtain ⟨v, hv, hr⟩ := args_one hρ ha
    split at hp
    · rename_i hu
      obtain rfl := val_ok hp hk
      refine .same g (v := .int .i64 s.size) ?_ (.fr (.v rfl))
      rw [exec_builtin ho hc, hv, types_one ht, hr.v_inv.1]
      simp [builtin, Builtin.len_, run_underlying (isStrT_ok hu), goInt]
    · cases hp
  · rename_i x t _ ha ht
    obtain ⟨v, hv, hr⟩ := args_one hρ ha
    split at hp
    · rename_i hu
      obtain ⟨e, hu⟩ := isSlT_ok hu
      obtain ⟨es, sz, he, hs⟩ := srd_ok g hp hbs hk hr
      simp only [Option.some.injEq] at he
      subst he
      obtain ⟨a, _, _, cap, rfl, _⟩ := hs
      refine .same g (v := .int .i64 es.length) ?_ (.fr (.v rfl))
      rw [exec_builtin ho hc, hv, types_one ht]
      simp [builtin, Builtin.len_, run_underlying hu, goInt]
    · cases hp
  · rename_i t ha ht
    obtain ⟨v, hv, hr⟩ := args_one hρ ha
    split at hp
    · rename_i hu
      obtain ⟨e, hu⟩ := isSlT_ok hu
      obtain rfl := val_ok hp hk
      obtain ⟨a, rfl⟩ := hr.e0_inv
      refine .same g (v := .int .i64 0) ?_ (.fr (.v rfl))
      rw [exec_builtin ho hc, hv, types_one ht]
      simp [builtin, Builtin.cap_, run_underlying hu, goInt]
    · cases hp
  · rename_i t ha ht
    obtain ⟨v, hv, hr⟩ := args_one hρ ha
    split at hp
    · rename_i hu
      obtain ⟨e, hu⟩ := isSlT_ok hu
      obtain rfl := val_ok hp hk
      refine .same g (v := .int .i64 0) ?_ (.fr (.v rfl))
      rw [exec_builtin ho hc, hv, types_one ht, hr.v_inv.1]
      simp [builtin, Builtin.cap_, run_underlying hu, goInt]
    · cases hp
  · exact absurd rfl hb.1
  · exact absurd rfl hb.2
  · exact ok_minmax g hρ ho hc (f := Builtin.min_) (fun _ _ _ _ => rfl) hp hk
  · exact ok_minmax g hρ ho hc (f := Builtin.max_) (fun _ _ _ _ => rfl) hp hk
  · cases hp

/-! Conversions. -/
theorem numsOf_spec {k : IntKind} : ∀ {es : List (List AV)} {l : List Int}, numsOf k es = some l → l.length = es.length ∧ ∀ i, i < es.length → es.getD i [] = [.v (.int k (l.getD i 0))]
  | [], l, h => by simp only [numsOf, Option.some.injEq] at h; subst h; exact ⟨rfl, fun i hi => by simp at hi⟩
  | e :: es, l, h => by
    unfold numsOf at h
    split at h
    · rename_i he; cases he
    · rename_i k' n r he
      simp only [List.cons.injEq] at he
      obtain ⟨rfl, rfl⟩ := he
      split at h
      · rename_i hk
        subst hk
        cases hr : numsOf k' es with
        | none => rw [hr] at h; cases h
        | some l' =>
          rw [hr] at h
          simp only [Option.map_some, Option.some.injEq] at h
          subst h
          obtain ⟨h1, h2⟩ := numsOf_spec hr
          refine ⟨by simp [h1], fun i hi => ?_⟩
          cases i with
          | zero => rfl
          | succ i => simpa using h2 i (by simpa using hi)
      · cases h
    · cases h

/-- A slice of whole numbers reads as these. -/
theorem SR.nums {C : Ctx} {es : List (List AV)} {v : Value} {sz : Nat} (h : SR C es v sz) {k : IntKind} {l : List Int} (hl : numsOf k es = some l) :
    ∃ a cap, v = .slice a l.length cap ∧ (l ≠ [] → ∃ b o, a = some ⟨b, o, none⟩ ∧ ∀ i, i < l.length → C.w.cell? ⟨b, o + i, none⟩ = some (.int k (l.getD i 0))) := by
  obtain ⟨hll, hsp⟩ := numsOf_spec hl
  obtain ⟨a, b, o, cap, rfl, _, _, h3, h4, h5⟩ := h
  refine ⟨a, cap, by rw [hll], fun hne => ⟨b, o, h3 (fun e => hne (List.eq_nil_of_length_eq_zero (by rw [hll, e]; rfl))), fun i hi => ?_⟩⟩
  rw [hll] at hi
  have hs : sz = 1 := by
    have := h4 i hi
    rw [hsp i hi] at this
    exact this.symm
  subst hs
  obtain ⟨c, e1, _, e3⟩ := h5 i 0 hi (by omega)
  rw [hsp i hi] at e3
  have := e3.v_inv.1
  subst this
  simpa using e1

theorem ok_convert (g : Good C) (hρ : ∀ x, VR C (ρ x) (ev x)) {src dst : TypeId} {x : Operand} (ho : o.op = .convert src dst x) (hp : plan E o ρ = .prim rd k) (hbs : rd.mapM C.get = some bs) (hk : k bs = some ef) : EffOK E.P C o ev ef := by
  have hex : ∀ w, (execOp ev o).run E.P w = ((convert src dst (ev x)).run E.P w).andThen fun a w' => .ok (.value a) w' := by
    intro w
    simp only [execOp, ho, Sem.run_bind]
    rfl
  simp only [plan, ho, convA] at hp
  split at hp
  · rename_i a ha
    obtain ⟨y, hy, rfl⟩ := opt_ok hp hk
    obtain ⟨v, hd, hpl, rfl⟩ := plainV_ok hy
    refine .same g (v := v) ?_ (.fr (.v hpl))
    have hv := (ha ▸ hρ x).v_inv.1
    rw [hex, hv, det_run hd]
    rfl
  · split at hp
    · rename_i e hs
      split at hp
      · rename_i hc
        simp only [Bool.and_eq_true] at hc
        have hd := isStrT_ok hc.1
        have he := isU8T_ok hc.2
        obtain ⟨es, sz, hes, hsr⟩ := srd_ok g hp hbs hk (hρ x)
        cases hb : numsOf .u8 es with
        | none => rw [hb] at hes; cases hes
        | some l =>
          rw [hb] at hes
          simp only [Option.map_some, Option.some.injEq] at hes
          subst hes
          obtain ⟨a, cap, hv, hcell⟩ := hsr.nums hb
          refine .same g (v := .string (strOfNums l)) ?_ (.fr (.v rfl))
          rw [hex, hv]
          cases hl : l with
          | nil =>
            cases a with
            | none =>
              rw [run_convert_bytes_nil C.w src e hs he _ _ dst hd]
              rfl
            | some ad =>
              simp only [convert, Sem.run_bind, run_underlying hs, run_underlying hd, run_underlying he, Result.andThen_ok]
              simp [Conv.bytesToString, loadCells, loadCellsFrom, strOfNums, ByteArray.empty, ByteArray.emptyWithCapacity]
              rfl
          | cons x0 l0 =>
            obtain ⟨b, o', rfl, hc⟩ := hcell (by rw [hl]; simp)
            rw [← hl, run_convert_bytes_arg C.w src e hs he b o' _ cap l rfl hc dst hd]
            rfl
      · cases hp
    · cases hp

end
end Go.Am
