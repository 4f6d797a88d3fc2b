/- A call: from the run of the body to the call's contract. -/
import Derived.Test.YtoeemmlfcnokiaaGreatAmRun4
set_option linter.all false
set_option linter.deprecated false
namespace Go.Am

theorem mapM_run {P : Program} {w : World} {α : Type} {f : α → Sem Value} {g : α → Option AV} {C : Ctx} (l : List α) (hl : ∀ x ∈ l, ∀ y, g x = some y → ∃ v, (f x).run P w = .ok v w ∧ VR C y v) :
    ∀ {ys : List AV}, l.mapM g = some ys → ∃ vs : List Value, (l.mapM f).run P w = .ok vs w ∧ vs.length = ys.length ∧ ∀ i, i < ys.length → VR C (ys.getD i .dead) (vs.getD i undef) := by
  induction l with
  | nil => intro ys h; simp at h; subst h; exact ⟨[], rfl, rfl, by simp⟩
  | cons x r ih =>
    intro ys h
    rw [List.mapM_cons] at h
    cases hx : g x with
    | none => rw [hx] at h; cases h
    | some y =>
      rw [hx] at h
      cases hr : r.mapM g with
      | none => rw [hr] at h; cases h
      | some zs =>
        rw [hr] at h
        have h : y :: zs = ys := by simpa using h
        subst h
        obtain ⟨v, h1, h2⟩ := hl x (by simp) y hx
        obtain ⟨vs, h3, h4, h5⟩ := ih (fun z hz => hl z (by simp [hz])) hr
        refine ⟨v :: vs, ?_, by simp [h4], fun i hi => ?_⟩
        · rw [List.mapM_cons]
          simp [Sem.run_bind, h1, h3, Result.andThen]
        · cases i with
          | zero => exact h2
          | succ i => exact h5 i (by simpa using hi)

def resF (a : Array Value) : ResultVar → Sem Value
  | .tmp t => pure (a.getD t undef)
  | .cell b t => do loadVar t (← asAddr (a.getD b undef))
theorem results_resF (fn : Func) (a : Array Value) : results fn a = (fn.results.mapM (resF a) >>= fun vs => pure (if h : vs.size = 1 then vs[0] else .tuple vs)) := rfl

theorem results_rel {P : Program} {C : Ctx} (g : Good C) {s : St} {a : Array Value} (hH : ∀ n, C.get n = s.H.get n) (ht : TR C s.tm a) {fn : Func} {r : AV} (h : resultsA P fn s = some r) :
    ∃ v, (results fn a).run P C.w = .ok v C.w ∧ VR C r v := by
  unfold resultsA at h
  simp only [Option.bind_eq_bind] at h
  obtain ⟨ys, hys, h⟩ := Option.bind_eq_some_iff.1 h
  have key := mapM_run (P := P) (w := C.w) (C := C) (f := resF a) fn.results.toList (fun x _ y hy => tmps_cell (r := x) g hH ht hy) hys
  obtain ⟨vs, h1, h2, h3⟩ := key
  have hm : (results fn a).run P C.w = .ok (if h : vs.toArray.size = 1 then vs.toArray[0] else .tuple vs.toArray) C.w := by
    rw [results_resF, Array.mapM_eq_mapM_toList]
    simp only [Sem.run_bind, Sem.run_map, h1, Result.andThen, Sem.run_pure]
  refine ⟨_, hm, ?_⟩
  split at h
  · rename_i x
    simp only [Option.some.injEq] at h
    subst h
    rcases vs with _ | ⟨v, _ | ⟨u, r⟩⟩
    · simp at h2
    · exact h3 0 (by simp)
    · simp at h2
  · rename_i zs hne
    simp only [Option.some.injEq] at h
    subst h
    have : ¬ vs.toArray.size = 1 := by
      intro e
      rcases ys with _ | ⟨y, _ | ⟨z, r⟩⟩
      · simp [h2] at e
      · exact hne y rfl
      · simp [h2] at e
    rw [dif_neg this]
    exact .tup _ (by simpa using h2) fun i hi => by simpa [List.getD_eq_getElem?_getD, Array.getD_eq_getD_getElem?] using h3 i hi

def exOf : AX → Exit
  | .normal => .normal
  | .exit id => .exit id
  | .ret => .ret

/-- Of the fence: all functions, any depth; a round or none. -/
def FenceOK (rd : Bool) (F : Fence) : Prop := (∀ f, F.fn f) ∧ F.depth = none ∧ (rd = false → F.round = none)

/-- What the run of a piece of code says of the code. -/
def Post (C : Ctx) (lo : Nat) (ys : List (Nat × LRec)) (a : Act) (x : AX) (s' : St) (e : Exit) (a' : Act) (w' : World) : Prop :=
  e = exOf x ∧ ∃ C' ds, C'.w = w' ∧ After C C' lo ys s'.H ∧ TR C' s'.tm a'.tmps ∧ a'.defers = marked ds ++ a.defers ∧ Marks C C' ds
def GoOK (E : Env) (go : Run) : Prop :=
  ∀ (rd : Bool) (ys : List (Nat × LRec)) (lo : Nat) (c : Code) (s : St) (x : AX) (s' : St), go rd ys lo c s = some (x, s') →
    ∀ (C : Ctx) (a : Act) (F : Fence) (n : Nat), FenceOK rd F → Good C → HR C s.H → lo ≤ s.H.next → TR C s.tm a.tmps → YRel C ys → c.wpIn F n E.P (Post C lo ys a x s') a C.w

structure ProgOK (E : Env) : Prop extends EnvOK E where
  noNG : ∀ (f : FuncId) (fn : Func), E.P.funcs[f]? = some fn → (fn.name == "runtime.NumGoroutine") = false

theorem run_callFunc {P : Program} {f : FuncId} {fn : Func} {c : Code} (h : P.funcs[f]? = some fn) (hb : fn.body = some c) (hn : (fn.name == "runtime.NumGoroutine") = false) (args : Array Value) (w : World) :
    (callFunc f args).run P w = .ok (.enter f args) w := by
  have hn' : ¬ fn.name = "runtime.NumGoroutine" := by simpa using hn
  simp [callFunc, Sem.run_bind, h, hb, hn', Result.andThen, program, Sem.run]

theorem HR.le_next {C : Ctx} {H : AHeap} {lo : Nat} (h : HR C H) (hl : ∀ m, m < lo → C.born m) : lo ≤ H.next := by
  rcases Nat.lt_or_ge H.next lo with h' | h'
  · exact absurd ((h.born _).1 (hl _ h')) (Nat.lt_irrefl _)
  · exact h'
theorem After.lo {C C' : Ctx} {lo : Nat} {ys : List (Nat × LRec)} {H H' : AHeap} (h : After C C' lo ys H') (hH : HR C H) (hl : lo ≤ H.next) : lo ≤ H'.next :=
  h.hr.le_next fun m hm => h.le.born m ((hH.born m).2 (by omega))

/-- What a call ends in. -/
def CPost (C : Ctx) (lo : Nat) (ys : List (Nat × LRec)) (r : AV) (H' : AHeap) (e : Ending) (w' : World) : Prop :=
  ∃ v, e = .returned v ∧ ∃ C', C'.w = w' ∧ After C C' lo ys H' ∧ C'.X = C.X ∧ VR C' r v

theorem call_ok {E : Env} {go : Run} (hgo : GoOK E go) {ys : List (Nat × LRec)} {lo : Nat} {f : FuncId} {args : List AV} {H : AHeap} {r : AV} {H' : AHeap} (h : callG E go ys lo f args H = some (r, H'))
    {C : Ctx} (g : Good C) (hH : HR C H) (hlo : lo ≤ H.next) {vs : Array Value} (ha : ARel C args vs) (hy : YRel C ys) (F : Fence) (hF : FenceOK false F) (n : Nat) :
    CallsIn F n E.P f vs C.w (CPost C lo ys r H') ∧ ∃ fn c, E.P.funcs[f]? = some fn ∧ fn.body = some c := by
  unfold callG at h
  split at h
  · cases h
  rename_i fn hfn
  split at h
  · cases h
  rename_i body hb
  split at h
  · cases h
  rename_i hlen
  rw [fL_eq fH_eq] at h
  obtain ⟨tm, htm, hn, hget⟩ := Slots.mk'_eq fn.ntmps args (by omega) fun tm =>
    match go false ys lo body ⟨tm, H⟩ with
    | some (.normal, s') | some (.ret, s') => match resultsA E.P fn s' with
      | some r => fA r fun r => some (r, s'.H)
      | none => none
    | _ => none
  have htm' : _ = some (r, H') := htm.symm.trans h
  clear htm h
  refine ⟨?_, fn, body, hfn, hb⟩
  have hT : TR C tm (vs ++ Array.replicate (fn.ntmps - vs.size) undef) := by
    refine ⟨by rw [hn]; simp [ha.1]; omega, fun t => ?_⟩
    rw [hget t]
    by_cases ht : t < args.length
    · have e1 : args.getD t (.tup []) = args.getD t .dead := by simp [List.getD_eq_getElem?_getD, ht]
      have e2 : (vs ++ Array.replicate (fn.ntmps - vs.size) undef).getD t undef = vs.getD t undef := by
        simp only [Array.getD_eq_getD_getElem?]
        rw [Array.getElem?_append_left (by rw [ha.1]; exact ht)]
      rw [e1, e2]
      exact ha.2 t ht
    · have e1 : args.getD t (.tup []) = .tup [] := by simp [List.getD_eq_getElem?_getD, ht]
      have e2 : (vs ++ Array.replicate (fn.ntmps - vs.size) undef).getD t undef = undef := by
        simp only [Array.getD_eq_getD_getElem?]
        rw [Array.getElem?_append_right (by rw [ha.1]; omega), Array.getElem?_replicate]
        split <;> rfl
      rw [e1, e2]
      exact vr_undef
  have main : ∀ x s', go false ys lo body ⟨tm, H⟩ = some (x, s') → (x = .normal ∨ x = .ret) → resultsA E.P fn s' = some r → s'.H = H' → CallsIn F n E.P f vs C.w (CPost C lo ys r H') := by
    intro x s' hx hxx hr hH'
    have hw := hgo false ys lo body ⟨tm, H⟩ x s' hx C { tmps := vs ++ Array.replicate (fn.ntmps - vs.size) undef, defers := [] } F n hF g hH hlo hT hy
    refine callsIn_of_wp_marks hfn hb (hF.1 f) (wpIn_mono hw ?_) (hF.2.2 rfl)
    rintro e a' w' ⟨he, C', ds, rfl, hA, hT', hd, hm⟩
    have lv : LeavesInM F n E.P fn a'.tmps (CPost C lo ys r H') a'.defers .returning C'.w := by
      rw [hd, List.append_nil]
      refine leaves_marked ds hm.nodup C'.w hm.at' ?_
      have gL : Good (C.leave C' ds) := leave_good hA.good hm hA.le
      obtain ⟨v, hv, hvr⟩ := results_rel (P := E.P) (C := C.leave C' ds) gL (s := s') (a := a'.tmps) (fn := fn) (r := r) hA.hr.get ⟨hT'.1, fun t => leave_vr hA.good hm hA.le.X (hT'.2 t)⟩ hr
      refine ⟨v, hv, v, rfl, C.leave C' ds, rfl, ⟨leave_le g hA.good hm hA.le, gL, ?_, hA.low, hA.js⟩, rfl, hvr⟩
      subst hH'
      exact ⟨hA.hr.get, hA.hr.born, hA.hr.js⟩
    rcases hxx with rfl | rfl
    · subst he; exact lv
    · subst he; exact lv
  split at htm'
  · rename_i s' hx
    split at htm'
    · rename_i r' hr
      rw [fA_eq] at htm'
      simp only [Option.some.injEq, Prod.mk.injEq] at htm'
      exact main .normal s' hx (.inl rfl) (htm'.1 ▸ hr) htm'.2
    · cases htm'
  · rename_i s' hx
    split at htm'
    · rename_i r' hr
      rw [fA_eq] at htm'
      simp only [Option.some.injEq, Prod.mk.injEq] at htm'
      exact main .ret s' hx (.inr rfl) (htm'.1 ▸ hr) htm'.2
    · cases htm'
  · cases htm'

end Go.Am
