/- What the abstract machine plans is what the model does: slices, len, cap, min, max, conversions. -/
import Derived.Test.YtoeemmlfcnokiaaGreatAmOps6
set_option linter.all false
set_option linter.deprecated false
namespace Go.Am

/-- A bound as it stands in a slice expression. -/
def BV (x : Option Value) (n d : Nat) : Prop := (x = none ∧ n = d) ∨ ∃ k i, x = some (.int k i) ∧ 0 ≤ i ∧ i.toNat = n

theorem run_bound {P : Program} {w : World} {k : IntKind} {i : Int} {y : Nat} {code : BoundsCode} (h0 : 0 ≤ i) (h1 : i.toNat ≤ y) : (Instr.sliceBound (.int k i) y code).run P w = .ok i.toNat w := by
  have : 0 ≤ i ∧ i ≤ y := ⟨h0, by omega⟩
  simp [Instr.sliceBound, asIntOf, this]

theorem run_bounds {P : Program} {w : World} {isSlice : Bool} {len cap l h : Nat} {lo hi : Option Value} (hlo : BV lo l 0) (hhi : BV hi h len) (h1 : l ≤ h) (h2 : h ≤ cap) :
    (Instr.sliceBounds isSlice len cap lo hi none).run P w = .ok (l, h, cap) w := by
  rcases hlo with ⟨rfl, rfl⟩ | ⟨kl, il, rfl, hl0, rfl⟩ <;> rcases hhi with ⟨rfl, rfl⟩ | ⟨kh, ih, rfl, hh0, rfl⟩
  · simp [Instr.sliceBounds]
  · simp [Instr.sliceBounds, run_bound hh0 h2]
  · simp [Instr.sliceBounds, run_bound hl0 h1]
  · simp [Instr.sliceBounds, run_bound hh0 h2, run_bound hl0 h1]

theorem run_bounds0 {P : Program} {w : World} {isSlice : Bool} {len cap : Nat} {lo : Option Value} {k m : IntKind} (hlo : BV lo 0 0) :
    (Instr.sliceBounds isSlice len cap lo (some (.int k 0)) (some (.int m 0))).run P w = .ok (0, 0, 0) w := by
  have e : ∀ (y : Nat) (k : IntKind) (code : BoundsCode), (Instr.sliceBound (.int k 0) y code).run P w = .ok 0 w := fun y k code => by
    have := run_bound (P := P) (w := w) (k := k) (i := 0) (y := y) (code := code) (by omega) (by simp)
    simpa using this
  rcases hlo with ⟨rfl, _⟩ | ⟨kl, il, rfl, hl0, hl1⟩
  · simp [Instr.sliceBounds, e]
  · have : il = 0 := by omega
    subst this
    simp [Instr.sliceBounds, e]

section
variable {E : Env} {C : Ctx} {o : Oper} {ρ : Operand → AV} {ev : Operand → Value} {rd : List Nat} {k : List Blk → Option Eff} {bs : List Blk} {ef : Eff}

theorem bound_bv (hρ : ∀ x, VR C (ρ x) (ev x)) {x : Option Operand} {d n : Nat} (h : bound? (x.map ρ) d = some n) : BV (x.map ev) n d := by
  cases x with
  | none => simp only [Option.map_none, bound?, Option.some.injEq] at h; exact .inl ⟨rfl, h.symm⟩
  | some y =>
    simp only [Option.map_some, bound?] at h
    split at h
    · rename_i he; cases he
    · rename_i kk i he
      simp only [Option.some.injEq] at he
      have hv := (he ▸ hρ y).v_inv.1
      split at h
      · exact .inr ⟨kk, i, by simp [hv], by assumption, by simpa using h⟩
      · cases h
    · cases h

theorem exec_slice {P : Program} {w : World} {t : TypeId} {x : Operand} {lo hi mx : Option Operand} (ho : o.op = .slice t x lo hi mx) {d : TypeDesc} (hu : P.underlying t = some d) (hd : ∀ n e, d ≠ .array n e) :
    (execOp ev o).run P w = ((Instr.slice t (ev x) (lo.map ev) (hi.map ev) (mx.map ev)).run P w).andThen fun a w' => .ok (.value a) w' := by
  have e : (Instr.sliceAt t (ev x) (lo.map ev) (hi.map ev) (mx.map ev)).run P w = (Instr.slice t (ev x) (lo.map ev) (hi.map ev) (mx.map ev)).run P w := by
    simp only [Instr.sliceAt, Sem.run_bind, run_underlying hu, Result.andThen_ok]
  simp only [execOp, ho, Sem.run_bind, e]
  rfl

theorem ok_slice (g : Good C) (hρ : ∀ x, VR C (ρ x) (ev x)) {t : TypeId} {x : Operand} {lo hi mx : Option Operand} (ho : o.op = .slice t x lo hi mx) (hp : plan E o ρ = .prim rd k) (hbs : rd.mapM C.get = some bs) (hk : k bs = some ef) : EffOK E.P C o ev ef := by
  simp only [plan, ho, sliceA] at hp
  split at hp
  · rename_i s hx
    have hv := (hx ▸ hρ x).v_inv.1
    split at hp
    · rename_i hmx
      have hmx' : mx = none := by cases mx <;> simp_all
      subst hmx'
      split at hp
      · rename_i l h hl hh
        split at hp
        · rename_i hc
          obtain ⟨h1, h2, h3⟩ := hc
          obtain rfl := val_ok hp hk
          have hu := isStrT_ok h3
          refine .same g (v := .string (s.extract l h)) ?_ (.fr (.v rfl))
          rw [exec_slice ho hu (by simp)]
          simp [hv, Instr.slice, run_underlying hu, run_bounds (P := E.P) (w := C.w) (isSlice := false) (bound_bv hρ hl) (bound_bv hρ hh) h1 h2]
        · cases hp
      · cases hp
    · cases hp
  · split at hp
    · rename_i elem hu
      have hex := fun w => exec_slice (P := E.P) (w := w) (ev := ev) ho hu (by simp)
      split at hp
      · cases hp
      · rename_i size hs
        have hrun : ∀ (a : Option Addr) (len cap l h : Nat), mx = none → ev x = .slice a len cap → BV (lo.map ev) l 0 → BV (hi.map ev) h len → l ≤ h → h ≤ cap →
            (execOp ev o).run E.P C.w = .ok (.value (.slice (if cap = l then a else a.map (·.add (l * size))) (h - l) (cap - l))) C.w := by
          intro a len cap l h hm hv hl hh h1 h2
          subst hm
          rw [hex]
          simp only [hv, Instr.slice, Sem.run_bind, run_underlying hu, Result.andThen_ok, Option.map_none, run_bounds hl hh h1 h2, run_sizeOf' hs, Sem.run_pure]
        have hrun0 : ∀ (a : Option Addr) (len cap : Nat) (k m : IntKind) , (mx.map ev) = some (.int m 0) → (hi.map ev) = some (.int k 0) → ev x = .slice a len cap → BV (lo.map ev) 0 0 →
            (execOp ev o).run E.P C.w = .ok (.value (.slice a 0 0)) C.w := by
          intro a len cap k m hm hh hv hl
          rw [hex]
          simp only [hv, Instr.slice, Sem.run_bind, run_underlying hu, Result.andThen_ok, hm, hh, run_bounds0 hl, run_sizeOf' hs, Sem.run_pure, if_true, Nat.sub_self]
        have mxn : mx.map ρ = none → mx = none := by intro h; cases mx <;> simp_all
        split at hp
        · rename_i hx hmx
          split at hp
          · rename_i hl hh
            have hx' := val_ok hp hk
            have hv := (hx ▸ hρ x).v_inv.1
            rw [hx']
            refine .same g (hrun none 0 0 0 0 (mxn hmx) hv (bound_bv hρ hl) (bound_bv hρ hh) (Nat.le_refl _) (Nat.le_refl _)) ?_
            rw [hx]
            exact .fr (.v rfl)
          · cases hp
        · rename_i hx hmx
          split at hp
          · rename_i hl hh
            have hx' := val_ok hp hk
            obtain ⟨a, hv⟩ := (hx ▸ hρ x).e0_inv
            rw [hx']
            refine .same g (hrun (some a) 0 0 0 0 (mxn hmx) hv (bound_bv hρ hl) (bound_bv hρ hh) (Nat.le_refl _) (Nat.le_refl _)) ?_
            rw [hx]
            exact .fr (.e0 a)
          · cases hp
        · rename_i sz es hx hmx
          split at hp
          · rename_i l h hl hh
            split at hp
            · rename_i hc
              obtain ⟨h1, h2, rfl⟩ := hc
              obtain rfl := val_ok hp hk
              have hf := (hx ▸ hρ x).sl_inv
              generalize hv : ev x = u at hf
              cases hf with
              | sl a b o' cap c ha hlen hcap hsz hc h1' hr =>
                refine .same g (hrun (some a) es.length cap l h (mxn hmx) hv (bound_bv hρ hl) (bound_bv hρ hh) h1 (by omega)) ?_
                have hl' : ((es.drop l).take (h - l)).length = h - l := by simp; omega
                have key := FR.sl (w := C.w) (av := C.av) (sz := sz) (es := (es.drop l).take (h - l)) (if cap = l then a else a.add (l * sz)) b (o' + l * sz) (cap - l) (fun i j => c (l + i) j)
                  (fun hne => by
                    have : 0 < ((es.drop l).take (h - l)).length := List.length_pos_iff.2 hne
                    obtain ⟨e1, e2, e3⟩ := ha (fun e => by subst e; simp at h2; omega)
                    refine ⟨?_, e2, e3⟩
                    rw [if_neg (by omega), e1, addr_add])
                  (by omega) (by omega)
                  (fun i hi => by rw [hl'] at hi; rw [getD_take, if_pos hi, getD_drop]; exact hsz _ (by omega))
                  (fun i j hi hj => by
                    rw [hl'] at hi
                    rw [← hc (l + i) j (by omega) hj, Nat.add_mul]
                    congr 2
                    omega)
                  (fun i j hi hj => by rw [hl'] at hi; exact h1' _ _ (by omega) hj)
                  (fun i j hi hj => by rw [hl'] at hi; rw [getD_take, if_pos hi, getD_drop]; exact hr _ _ (by omega) hj)
                rw [hl'] at key
                have hif : (if cap = l then some a else (some a).map (·.add (l * sz))) = some (if cap = l then a else a.add (l * sz)) := by split <;> rfl
                rw [hif]
                exact .fr key
            · cases hp
          · cases hp
        · rename_i n e off len hx hmx
          split at hp
          · rename_i l h hl hh
            obtain ⟨rfl, rfl⟩ := prim_inj hp
            obtain ⟨b, hb, rfl⟩ := mapM_one hbs
            simp only at hk
            split at hk
            · rename_i hc
              obtain ⟨he, hit, h1, h2, hsz, h3⟩ := hc
              simp only [Option.some.injEq] at hk
              subst hk
              obtain ⟨a, cap, hv, hcap, hlc, ha⟩ := (hx ▸ hρ x).os_inv hb he
              obtain ⟨cs, fr, _, _, _, h4, _, _⟩ := row_of g hb (isNone_eq hit)
              have hif : (if cap = l then some a else (some a).map (·.add (l * size))) = some (if cap = l then a else a.add (l * size)) := by split <;> rfl
              refine .same g (hrun (some a) len cap l h (mxn hmx) hv (bound_bv hρ hl) (bound_bv hρ hh) h1 (by omega)) (.os_mk g hb he (by rw [hif]) (by omega) (by omega) fun hpos => ?_)
              rw [if_neg (by omega), ha (by omega)]
              simp only [addr_add, hsz, Nat.add_mul]
              congr 1
              omega
            · cases hk
          · cases hp
        · rename_i m hmx
          obtain ⟨mo, rfl, hmo⟩ : ∃ y, mx = some y ∧ ρ y = m := by
            cases mx with
            | none => cases hmx
            | some y => exact ⟨y, rfl, by simpa using hmx⟩
          have m0 : bound? (some m) 0 = some 0 → ∃ mk, (Option.map ev (some mo)) = some (.int mk 0) := by
            intro hm
            have := bound_bv (x := some mo) hρ (d := 0) (n := 0) (by simpa [hmo] using hm)
            rcases this with ⟨h, _⟩ | ⟨kk, i, h, h0, h1⟩
            · cases h
            · have : i = 0 := by omega
              subst this
              exact ⟨kk, h⟩
          have hh0 : ∀ {kk : IntKind}, hi.map ρ = some (.v (.int kk 0)) → hi.map ev = some (.int kk 0) := by
            intro kk h
            cases hi with
            | none => cases h
            | some y =>
              simp only [Option.map_some, Option.some.injEq] at h ⊢
              exact (h ▸ hρ y).v_inv.1
          split at hp
          · rename_i sz es hl hh hm hx
            obtain rfl := val_ok hp hk
            obtain ⟨mk, hmk⟩ := m0 hm
            have hf := (hx ▸ hρ x).sl_inv
            generalize hv : ev x = u at hf
            cases hf with
            | sl a b o' cap c ha hlen hcap hsz hc h1' hr => exact .same g (hrun0 (some a) _ cap _ mk hmk (hh0 hh) hv (bound_bv hρ hl)) (.fr (.e0 a))
          · rename_i hl hh hm hx
            obtain rfl := val_ok hp hk
            obtain ⟨mk, hmk⟩ := m0 hm
            obtain ⟨a, hv⟩ := (hx ▸ hρ x).e0_inv
            exact .same g (hrun0 (some a) 0 0 _ mk hmk (hh0 hh) hv (bound_bv hρ hl)) (.fr (.e0 a))
          · rename_i hl hh hm hx
            have hx' := val_ok hp hk
            obtain ⟨mk, hmk⟩ := m0 hm
            have hv := (hx ▸ hρ x).v_inv.1
            rw [hx']
            refine .same g (hrun0 none 0 0 _ mk hmk (hh0 hh) hv (bound_bv hρ hl)) ?_
            rw [hx]
            exact .fr (.v rfl)
          · rename_i n e off len hl hh hm hx
            obtain ⟨b, hb, he, rfl⟩ := live_ok hp hbs hk
            obtain ⟨mk, hmk⟩ := m0 hm
            obtain ⟨a, cap, hv, _⟩ := (hx ▸ hρ x).os_inv hb he
            exact .same g (hrun0 (some a) len cap _ mk hmk (hh0 hh) hv (bound_bv hρ hl)) (.fr (.e0 a))
          · cases hp
        · cases hp
    · cases hp

end
end Go.Am
