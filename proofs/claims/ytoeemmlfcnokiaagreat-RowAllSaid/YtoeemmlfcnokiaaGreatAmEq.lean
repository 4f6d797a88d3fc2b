/- '==' of structs whose cells are numbers, truths, strings. -/
import Derived.Test.YtoeemmlfcnokiaaGreatAmRun14
set_option linter.all false
set_option linter.deprecated false
namespace Go.Am

def ekOf (P : Program) (t : TypeId) : Option EK :=
  match P.underlying t with
  | some (.int _) => some .i
  | some .bool => some .b
  | some .string => some .s
  | _ => none
def flatEq (P : Program) : List Field → Nat → Option (List EK)
  | [], _ => some []
  | f :: r, i => if f.name ≠ "_" ∧ f.offset = i then (ekOf P f.type).bind fun k => (flatEq P r (i + 1)).map (k :: ·) else none
def eqKinds (P : Program) (t : TypeId) : Option (List EK) :=
  match P.underlying t with
  | some (.struct fs) => if P.stoodInHeld t = false ∧ P.eqGuardType P.depth t = false then flatEq P fs.toList 0 else none
  | _ => none

theorem ek_run {P : Program} {t : TypeId} {k : EK} (h : ekOf P t = some k) (w : World) (d : Nat) : (∀ (xs : Array Value) (off : Nat) (v : Value), xs[off]? = some v → (part t xs off).run P w = .ok v w) ∧
    ∀ (x y : Value) (a : Bool), eqVal k x y = some a → (Op.equalIn (d + 1) t x y).run P w = .ok a w := by
  unfold ekOf at h
  split at h
  · rename_i k' hu
    cases h
    refine ⟨fun xs off v hv => by simp [part, isAgg, run_underlying hu, hv], fun x y a he => ?_⟩
    unfold eqVal at he
    split at he <;> first | (rename_i hk; cases hk; done) | skip
    · split at he
      · rename_i hkk
        subst hkk
        simp only [Option.some.injEq] at he
        subst he
        exact run_equalIn_int w d t _ k' _ _ hu
      · cases he
    all_goals simp_all
  · rename_i hu
    cases h
    refine ⟨fun xs off v hv => by simp [part, isAgg, run_underlying hu, hv], fun x y a he => ?_⟩
    unfold eqVal at he
    split at he <;> first | (rename_i hk; cases hk; done) | skip
    · simp only [Option.some.injEq] at he
      subst he
      exact run_equalIn_bool' w d t _ _ hu
    all_goals simp_all
  · rename_i hu
    cases h
    refine ⟨fun xs off v hv => by simp [part, isAgg, run_underlying hu, hv], fun x y a he => ?_⟩
    unfold eqVal at he
    split at he <;> first | (rename_i hk; cases hk; done) | skip
    · simp only [Option.some.injEq] at he
      subst he
      rw [run_equalIn_string w d t _ _ hu, beq_toListBytes]
    all_goals simp_all
  · cases h

theorem flatEq_run {P : Program} {xs ys : Array Value} {w : World} {d : Nat} (fs : List Field) : ∀ (i : Nat) (ks : List EK) (r : Bool), flatEq P fs i = some ks → eqVals ks (xs.toList.drop i) (ys.toList.drop i) = some r →
    (Op.eqFields (d + 1) xs ys fs).run P w = .ok r w := by
  induction fs with
  | nil =>
    intro i ks r h he
    simp only [flatEq, Option.some.injEq] at h
    subst h
    cases hx : xs.toList.drop i <;> cases hy : ys.toList.drop i <;> rw [hx, hy] at he <;> simp [eqVals] at he
    subst he
    rfl
  | cons f fs ih =>
    intro i ks r h he
    simp only [flatEq] at h
    split at h
    · rename_i hc
      obtain ⟨hn, ho⟩ := hc
      cases hk : ekOf P f.type with
      | none => rw [hk] at h; cases h
      | some k =>
        rw [hk] at h
        simp only [Option.bind_some] at h
        cases hks : flatEq P fs (i + 1) with
        | none => rw [hks] at h; cases h
        | some ks' =>
          rw [hks] at h
          simp only [Option.map_some, Option.some.injEq] at h
          subst h
          cases hx : xs.toList.drop i with
          | nil => rw [hx] at he; simp [eqVals] at he
          | cons x xr =>
            cases hy : ys.toList.drop i with
            | nil => rw [hx, hy] at he; simp [eqVals] at he
            | cons y yr =>
              rw [hx, hy] at he
              simp only [eqVals, Option.bind_eq_bind] at he
              obtain ⟨a, ha, he⟩ := Option.bind_eq_some_iff.1 he
              obtain ⟨b, hb, he⟩ := Option.bind_eq_some_iff.1 he
              simp only [Option.some.injEq] at he
              have ex : xs[i]? = some x ∧ xr = xs.toList.drop (i + 1) := by
                constructor
                · have := congrArg List.head? hx
                  rw [List.head?_drop] at this
                  simpa using this
                · have := congrArg List.tail hx
                  simpa [List.tail_drop] using this.symm
              have ey : ys[i]? = some y ∧ yr = ys.toList.drop (i + 1) := by
                constructor
                · have := congrArg List.head? hy
                  rw [List.head?_drop] at this
                  simpa using this
                · have := congrArg List.tail hy
                  simpa [List.tail_drop] using this.symm
              obtain ⟨p1, p2⟩ := ek_run hk w d
              have ihh := ih (i + 1) ks' b hks (by rw [← ex.2, ← ey.2]; exact hb)
              simp only [Op.eqFields, ho]
              rw [if_pos hn]
              simp only [Sem.run_bind, p1 xs i x ex.1, p1 ys i y ey.1, p2 x y a ha, Result.andThen, Sem.run_ite]
              subst he
              cases a
              · simp
              · simpa using ihh
    · cases h

theorem eqKinds_ok {P : Program} {t : TypeId} {ks : List EK} (h : eqKinds P t = some ks) : EqOK P t ks := by
  unfold eqKinds at h
  split at h
  · rename_i fs hu
    split at h
    · rename_i hc
      obtain ⟨h1, h2⟩ := hc
      intro xs ys r he w xo yo
      have hf : P.fieldsOf t = fs := by simp [Program.fieldsOf, hu]
      have hr : (Op.equalIn (9999 + 1) t (.agg xs) (.agg ys)).run P w = .ok r w := by
        rw [run_equalIn_agg w 9999 t xs ys (by rw [hf]; exact hu) h1, hf]
        exact flatEq_run (d := 9998) fs.toList 0 ks r h (by simpa using he)
      constructor
      · simp only [Sem.run_bind, run_eqGuard_agg w .eql t xo yo xs ys h2, Result.andThen, run_eql_struct, hr]
      · simp only [Sem.run_bind, run_eqGuard_agg w .neq t xo yo xs ys h2, Result.andThen, run_neq_struct, hr]
    · cases h
  · cases h

end Go.Am
