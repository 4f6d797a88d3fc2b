/- Parts of the proof: AmEq AmMono AmW AmW2. -/
import Derived.Test.YtmcimfmibpfnhaaGreatAmRun14
set_option linter.all false
set_option linter.deprecated false

namespace Go.Am

def ekOf (P : Program) (t : TypeId) : Option EK :=
  match P.underlying t with
  | some (.int _) => some .i
  | some .bool => some .b
  | some .string => some .s
  | _ => none
def flatEq (P : Program) : List Field → Nat → Option (List EK)
  | [], _ => some []
  | f :: r, i => if f.name ≠ "_" ∧ f.offset = i then (ekOf P f.type).bind fun k => (flatEq P r (i + 1)).map (k :: ·) else none
def eqKinds (P : Program) (t : TypeId) : Option (List EK) :=
  match P.underlying t with
  | some (.struct fs) => if P.stoodInHeld t = false ∧ P.eqGuardType P.depth t = false then flatEq P fs.toList 0 else none
  | _ => none

theorem ek_run {P : Program} {t : TypeId} {k : EK} (h : ekOf P t = some k) (w : World) (d : Nat) : (∀ (xs : Array Value) (off : Nat) (v : Value), xs[off]? = some v → (part t xs off).run P w = .ok v w) ∧
    ∀ (x y : Value) (a : Bool), eqVal k x y = some a → (Op.equalIn (d + 1) t x y).run P w = .ok a w := by
  unfold ekOf at h
  split at h
  · rename_i k' hu
    cases h
    refine ⟨fun xs off v hv => by simp [part, isAgg, run_underlying hu, hv], fun x y a he => ?_⟩
    unfold eqVal at he
    split at he <;> first | (rename_i hk; cases hk; done) | skip
    · split at he
      · rename_i hkk
        subst hkk
        simp only [Option.some.injEq] at he
        subst he
        exact run_equalIn_int w d t _ k' _ _ hu
      · cases he
    all_goals simp_all
  · rename_i hu
    cases h
    refine ⟨fun xs off v hv => by simp [part, isAgg, run_underlying hu, hv], fun x y a he => ?_⟩
    unfold eqVal at he
    split at he <;> first | (rename_i hk; cases hk; done) | skip
    · simp only [Option.some.injEq] at he
      subst he
      exact run_equalIn_bool' w d t _ _ hu
    all_goals simp_all
  · rename_i hu
    cases h
    refine ⟨fun xs off v hv => by simp [part, isAgg, run_underlying hu, hv], fun x y a he => ?_⟩
    unfold eqVal at he
    split at he <;> first | (rename_i hk; cases hk; done) | skip
    · simp only [Option.some.injEq] at he
      subst he
      rw [run_equalIn_string w d t _ _ hu, beq_toListBytes]
    all_goals simp_all
  · cases h

theorem flatEq_run {P : Program} {xs ys : Array Value} {w : World} {d : Nat} (fs : List Field) : ∀ (i : Nat) (ks : List EK) (r : Bool), flatEq P fs i = some ks → eqVals ks (xs.toList.drop i) (ys.toList.drop i) = some r →
    (Op.eqFields (d + 1) xs ys fs).run P w = .ok r w := by
  induction fs with
  | nil =>
    intro i ks r h he
    simp only [flatEq, Option.some.injEq] at h
    subst h
    cases hx : xs.toList.drop i <;> cases hy : ys.toList.drop i <;> rw [hx, hy] at he <;> simp [eqVals] at he
    subst he
    rfl
  | cons f fs ih =>
    intro i ks r h he
    simp only [flatEq] at h
    split at h
    · rename_i hc
      obtain ⟨hn, ho⟩ := hc
      cases hk : ekOf P f.type with
      | none => rw [hk] at h; cases h
      | some k =>
        rw [hk] at h
        simp only [Option.bind_some] at h
        cases hks : flatEq P fs (i + 1) with
        | none => rw [hks] at h; cases h
        | some ks' =>
          rw [hks] at h
          simp only [Option.map_some, Option.some.injEq] at h
          subst h
          cases hx : xs.toList.drop i with
          | nil => rw [hx] at he; simp [eqVals] at he
          | cons x xr =>
            cases hy : ys.toList.drop i with
            | nil => rw [hx, hy] at he; simp [eqVals] at he
            | cons y yr =>
              rw [hx, hy] at he
              simp only [eqVals, Option.bind_eq_bind] at he
              obtain ⟨a, ha, he⟩ := Option.bind_eq_some_iff.1 he
              obtain ⟨b, hb, he⟩ := Option.bind_eq_some_iff.1 he
              simp only [Option.some.injEq] at he
              have ex : xs[i]? = some x ∧ xr = xs.toList.drop (i + 1) := by
                constructor
                · have := congrArg List.head? hx
                  rw [List.head?_drop] at this
                  simpa using this
                · have := congrArg List.tail hx
                  simpa [List.tail_drop] using this.symm
              have ey : ys[i]? = some y ∧ yr = ys.toList.drop (i + 1) := by
                constructor
                · have := congrArg List.head? hy
                  rw [List.head?_drop] at this
                  simpa using this
                · have := congrArg List.tail hy
                  simpa [List.tail_drop] using this.symm
              obtain ⟨p1, p2⟩ := ek_run hk w d
              have ihh := ih (i + 1) ks' b hks (by rw [← ex.2, ← ey.2]; exact hb)
              simp only [Op.eqFields, ho]
              rw [if_pos hn]
              simp only [Sem.run_bind, p1 xs i x ex.1, p1 ys i y ey.1, p2 x y a ha, Result.andThen, Sem.run_ite]
              subst he
              cases a
              · simp
              · simpa using ihh
    · cases h

theorem eqKinds_ok {P : Program} {t : TypeId} {ks : List EK} (h : eqKinds P t = some ks) : EqOK P t ks := by
  unfold eqKinds at h
  split at h
  · rename_i fs hu
    split at h
    · rename_i hc
      obtain ⟨h1, h2⟩ := hc
      intro xs ys r he w xo yo
      have hf : P.fieldsOf t = fs := by simp [Program.fieldsOf, hu]
      have hr : (Op.equalIn (9999 + 1) t (.agg xs) (.agg ys)).run P w = .ok r w := by
        rw [run_equalIn_agg w 9999 t xs ys (by rw [hf]; exact hu) h1, hf]
        exact flatEq_run (d := 9998) fs.toList 0 ks r h (by simpa using he)
      constructor
      · simp only [Sem.run_bind, run_eqGuard_agg w .eql t xo yo xs ys h2, Result.andThen, run_eql_struct, hr]
      · simp only [Sem.run_bind, run_eqGuard_agg w .neq t xo yo xs ys h2, Result.andThen, run_neq_struct, hr]
    · cases h
  · cases h

end Go.Am

namespace Go.Am

theorem row8_id {R : Type} (l : List AV) (k : List AV → List AV → R) : row8 l k = k (row8 l fun a _ => a) (row8 l fun _ b => b) := by
  unfold row8
  dsimp only
  split <;> rfl
def rows8P : Nat → List AV → List (List AV)
  | 0, _ => []
  | m + 1, l => (row8 l fun a _ => a) :: rows8P m (row8 l fun _ b => b)
theorem rows8_id {R : Type} (m : Nat) : ∀ (l : List AV) (k : List (List AV) → R), rows8 m l k = k (rows8P m l) := by
  induction m with
  | zero => intro l k; rfl
  | succ m ih =>
    intro l k
    simp only [rows8]
    rw [row8_id, ih]
    rfl
/-- The slots at a call. -/
def Slots.of (n : Nat) (args : List AV) : Slots := ⟨n, rows8P ((n + 7) / 8) args⟩
theorem Slots.mk'_of {R : Type} (n : Nat) (args : List AV) (k : Slots → R) : Slots.mk' n args k = k (Slots.of n args) := by
  unfold Slots.of Slots.mk'
  rw [rows8_id]

def GoLe (go go' : Run) : Prop := ∀ rd ys lo c s r, go rd ys lo c s = some r → go' rd ys lo c s = some r

theorem setAll_mono {R : Type} (ps : List (Tmp × AV)) : ∀ (tm : Slots) {k k' : Slots → Option R} {r : R}, (∀ tm r, k tm = some r → k' tm = some r) → setAll tm ps k = some r → setAll tm ps k' = some r := by
  induction ps with
  | nil => intro tm k k' r hk h; exact hk _ _ h
  | cons p ps ih =>
    intro tm k k' r hk h
    obtain ⟨t, x⟩ := p
    obtain ⟨n, c⟩ := tm
    simp only [setAll, Slots.set] at h ⊢
    split at h
    · simp only [setR_eq] at h ⊢
      split at h
      · rename_i h1
        rw [if_pos h1]
        split at h
        · rename_i h2
          rw [if_pos h2]
          exact ih _ hk h
        · cases h
      · cases h
    · exact ih _ hk h

section
variable {E : Env} {go go' : Run} (h : GoLe go go')
include h

theorem callG_mono {ys : List (Nat × LRec)} {lo : Nat} {f : FuncId} {args : List AV} {H : AHeap} {r : AV × AHeap} (hr : callG E go ys lo f args H = some r) : callG E go' ys lo f args H = some r := by
  unfold callG at hr ⊢
  simp only [fL_eq fH_eq, Slots.mk'_of] at hr ⊢
  split at hr
  · cases hr
  · rename_i fn _
    split at hr
    · cases hr
    · rename_i body hb
      split at hr
      · cases hr
      · rename_i hlen
        rw [if_neg hlen]
        cases hg : go false ys lo body ⟨Slots.of fn.ntmps args, H⟩ with
        | none => rw [hg] at hr; cases hr
        | some q => rw [hg] at hr; rw [h _ _ _ _ _ _ hg]; exact hr

theorem yieldG_mono {ys : List (Nat × LRec)} {lo k : Nat} {args : List AV} {H : AHeap} {r : AV × AHeap} (hr : yieldG go ys lo k args H = some r) : yieldG go' ys lo k args H = some r := by
  unfold yieldG at hr ⊢
  split at hr
  · cases hr
  · rename_i p rec hf
    split at hr
    · split at hr
      · rename_i hl
        rw [if_pos hl]
        refine setAll_mono _ _ (fun tm r hr => ?_) hr
        cases hg : go true [] lo rec.assign ⟨tm, H⟩ with
        | none => rw [hg] at hr; cases hr
        | some q =>
          obtain ⟨x, s1⟩ := q
          rw [hg] at hr
          rw [h _ _ _ _ _ _ hg]
          cases x with
          | normal =>
            simp only at hr ⊢
            cases hg2 : go true [] lo rec.body ⟨s1.tm, { s1.H with js := s1.H.js.set k .busy }⟩ with
            | none => rw [hg2] at hr; cases hr
            | some q2 => rw [hg2] at hr; rw [h _ _ _ _ _ _ hg2]; exact hr
          | exit id => cases hr
          | ret => cases hr
      · cases hr
    · cases hr

theorem runPlan_mono {ys : List (Nat × LRec)} {lo : Nat} {H : AHeap} {p : Plan} {r : AV × AHeap × Tr} (hr : runPlan E (callF E go ys lo) lo H p = some r) : runPlan E (callF E go' ys lo) lo H p = some r := by
  have hc : ∀ {y : Bool} {l : Nat} {f : FuncId} {args : List AV} {H : AHeap} {q : AV × AHeap}, (callF E go ys lo).call y l f args H = some q → (callF E go' ys lo).call y l f args H = some q := fun hq => callG_mono h hq
  have hy : ∀ {k : Nat} {args : List AV} {H : AHeap} {q : AV × AHeap}, (callF E go ys lo).yield k args H = some q → (callF E go' ys lo).yield k args H = some q := fun hq => yieldG_mono h hq
  cases p with
  | bad => cases hr
  | prim rd k => exact hr
  | yield k args =>
    simp only [runPlan] at hr ⊢
    split at hr
    · cases hr
    · rename_i hq
      rw [hy hq]
      exact hr
  | call f args =>
    simp only [runPlan] at hr ⊢
    split at hr
    · split at hr
      · cases hr
      · rename_i hq
        rw [hc hq]
        exact hr
    · split at hr
      · rename_i hn
        rw [if_pos hn]
        exact hr
      · rename_i hn
        rw [if_neg hn]
        split at hr
        · cases hr
        · rename_i hq
          rw [hc hq]
          exact hr
    · split at hr
      · rename_i hn
        rw [if_pos hn]
        split at hr
        · cases hr
        · rename_i hq
          rw [hc hq]
          exact hr
      · rename_i hn
        rw [if_neg hn]
        split at hr
        · cases hr
        · rename_i hq
          rw [hc hq]
          exact hr

theorem stepOp_mono {ys : List (Nat × LRec)} {lo : Nat} {ops : List Oper} {o : Oper} {s : St} {r : St × Tr} (hr : stepOp E (callF E go ys lo) lo ops o s = some r) : stepOp E (callF E go' ys lo) lo ops o s = some r := by
  unfold stepOp at hr ⊢
  split at hr
  · cases hr
  · exact hr
  · split at hr
    · cases hr
    · rename_i hq
      rw [runPlan_mono h hq]
      exact hr

theorem runOps_mono {ys : List (Nat × LRec)} {lo : Nat} {ops rest : List Oper} {s : St} {r : St × List Tr} (hr : runOps E (callF E go ys lo) lo ops rest s = some r) : runOps E (callF E go' ys lo) lo ops rest s = some r := by
  induction rest generalizing s r with
  | nil => exact hr
  | cons o rest ih =>
    simp only [runOps] at hr ⊢
    split at hr
    · cases hr
    · rename_i hq
      rw [stepOp_mono h hq]
      dsimp only
      split at hr
      · cases hr
      · rename_i hq2
        rw [ih hq2]
        exact hr

theorem execF_mono : GoLe (execF E go) (execF E go') := by
  intro rd ys lo c s r hr
  cases c with
  | region id ops draw =>
    simp only [execF] at hr ⊢
    split at hr
    · cases hr
    · rename_i hq
      rw [runOps_mono h hq]
      exact hr
  | seq a b =>
    simp only [execF] at hr ⊢
    split at hr
    · cases hr
    · rename_i hq
      rw [h _ _ _ _ _ _ hq]
      exact h _ _ _ _ _ _ hr
    · rename_i hne hq
      rw [h _ _ _ _ _ _ hq]
      cases r with | mk x s' => simp only [Option.some.injEq, Prod.mk.injEq] at hr; obtain ⟨rfl, rfl⟩ := hr; simp_all
  | cond c a b =>
    simp only [execF] at hr ⊢
    split at hr
    · exact h _ _ _ _ _ _ hr
    · exact h _ _ _ _ _ _ hr
    · cases hr
  | block id c =>
    simp only [execF] at hr ⊢
    split at hr
    · rename_i hq
      rw [h _ _ _ _ _ _ hq]
      exact hr
    · rename_i hne
      rw [h _ _ _ _ _ _ hr]
      split
      · rename_i hq; simp only [Option.some.injEq] at hq; subst hq; exact (hne _ _ hr).elim
      · rfl
  | loop c =>
    simp only [execF] at hr ⊢
    split at hr
    · cases hr
    · rename_i hq
      rw [h _ _ _ _ _ _ hq]
      exact h _ _ _ _ _ _ hr
    · rename_i hne hq
      rw [h _ _ _ _ _ _ hq]
      cases r with | mk x s' => simp only [Option.some.injEq, Prod.mk.injEq] at hr; obtain ⟨rfl, rfl⟩ := hr; simp_all
  | scope c => exact h _ _ _ _ _ _ hr
  | rangeFunc f params assign body =>
    simp only [execF] at hr ⊢
    split at hr
    · cases hr
    · rename_i hrd
      rw [if_neg hrd]
      split at hr
      · split at hr
        · split at hr
          · cases hr
          · rename_i hq
            rw [callG_mono h hq]
            exact hr
        · cases hr
      · cases hr
  | skip => exact hr
  | label l => exact hr
  | exit id => exact hr
  | goto l => exact hr
  | ret => exact hr
  | refuse w => exact hr
end

theorem exec_succ (E : Env) (n : Nat) : GoLe (exec E n) (exec E (n + 1)) := by
  induction n with
  | zero => intro rd ys lo c s r h; simp [exec] at h
  | succ n ih => exact execF_mono ih
theorem exec_mono {E : Env} {n m : Nat} (h : n ≤ m) : GoLe (exec E n) (exec E m) := by
  induction h with
  | refl => intro rd ys lo c s r h; exact h
  | step _ ih => intro rd ys lo c s r h; exact exec_succ E _ _ _ _ _ _ _ (ih _ _ _ _ _ _ h)
end Go.Am

namespace Go.Am

/-- A piece of code runs, and ends so. -/
def W (E : Env) (rd : Bool) (ys : List (Nat × LRec)) (lo : Nat) (c : Code) (s : St) (Q : AX → St → Prop) : Prop :=
  ∃ n x s', exec E n rd ys lo c s = some (x, s') ∧ Q x s'
/-- The operations of a region, from one on. -/
def WO (E : Env) (ys : List (Nat × LRec)) (lo : Nat) (ops rest : List Oper) (s : St) (K : St → List Tr → Prop) : Prop :=
  ∃ n s' trs, runOps E (callF E (exec E n) ys lo) lo ops rest s = some (s', trs) ∧ K s' trs
/-- A call. -/
def WC (E : Env) (ys : List (Nat × LRec)) (lo : Nat) (f : FuncId) (args : List AV) (H : AHeap) (K : AV → AHeap → Prop) : Prop :=
  ∃ n r H', acall E ys n lo f args H = some (r, H') ∧ K r H'

section
variable {E : Env} {rd : Bool} {ys : List (Nat × LRec)} {lo : Nat} {s : St} {Q : AX → St → Prop}

theorem W.mono {c : Code} {Q' : AX → St → Prop} (h : W E rd ys lo c s Q) (hq : ∀ x s, Q x s → Q' x s) : W E rd ys lo c s Q' :=
  let ⟨n, x, s', h1, h2⟩ := h; ⟨n, x, s', h1, hq _ _ h2⟩
theorem W.skip (h : Q .normal s) : W E rd ys lo .skip s Q := ⟨1, .normal, s, rfl, h⟩
theorem W.label {l : Nat} (h : Q .normal s) : W E rd ys lo (.label l) s Q := ⟨1, .normal, s, rfl, h⟩
theorem W.exit {id : Nat} (h : Q (.exit id) s) : W E rd ys lo (.exit id) s Q := ⟨1, .exit id, s, rfl, h⟩
theorem W.ret (h : Q .ret s) : W E rd ys lo .ret s Q := ⟨1, .ret, s, rfl, h⟩
theorem W.seq {a b : Code} (h : W E rd ys lo a s fun x s1 => match x with | .normal => W E rd ys lo b s1 Q | x => Q x s1) : W E rd ys lo (.seq a b) s Q := by
  obtain ⟨n, x, s1, h1, h2⟩ := h
  cases x with
  | normal =>
    obtain ⟨m, y, s2, h3, h4⟩ := h2
    refine ⟨max n m + 1, y, s2, ?_, h4⟩
    simp only [exec, execF, exec_mono (Nat.le_max_left n m) _ _ _ _ _ _ h1]
    exact exec_mono (Nat.le_max_right n m) _ _ _ _ _ _ h3
  | exit id => exact ⟨n + 1, _, s1, by simp only [exec, execF, h1], h2⟩
  | ret => exact ⟨n + 1, _, s1, by simp only [exec, execF, h1], h2⟩
theorem W.cond {c : Operand} {a b : Code} {t : Bool} (hc : aev s.tm c = .v (.bool t)) (ht : t = true → W E rd ys lo a s Q) (hf : t = false → W E rd ys lo b s Q) : W E rd ys lo (.cond c a b) s Q := by
  cases t with
  | true =>
    obtain ⟨n, x, s', h1, h2⟩ := ht rfl
    exact ⟨n + 1, x, s', by simp only [exec, execF, hc, h1], h2⟩
  | false =>
    obtain ⟨n, x, s', h1, h2⟩ := hf rfl
    exact ⟨n + 1, x, s', by simp only [exec, execF, hc, h1], h2⟩
theorem W.block {id : Nat} {c : Code} (h : W E rd ys lo c s fun x s1 => match x with | .exit id' => if id' = id then Q .normal s1 else Q (.exit id') s1 | x => Q x s1) : W E rd ys lo (.block id c) s Q := by
  obtain ⟨n, x, s1, h1, h2⟩ := h
  cases x with
  | normal => exact ⟨n + 1, .normal, s1, by simp only [exec, execF, h1], h2⟩
  | ret => exact ⟨n + 1, .ret, s1, by simp only [exec, execF, h1], h2⟩
  | exit id' =>
    simp only at h2
    by_cases hid : id' = id
    · rw [if_pos hid] at h2
      exact ⟨n + 1, .normal, s1, by simp only [exec, execF, h1, if_pos hid], h2⟩
    · rw [if_neg hid] at h2
      exact ⟨n + 1, .exit id', s1, by simp only [exec, execF, h1, if_neg hid], h2⟩
theorem W.scope {c : Code} (h : W E rd ys lo c s Q) : W E rd ys lo (.scope c) s Q := by
  obtain ⟨n, x, s1, h1, h2⟩ := h
  exact ⟨n + 1, x, s1, by simp only [exec, execF, h1], h2⟩
/-- A loop, by an invariant and a measure. -/
theorem W.loop {c : Code} (I : Nat → St → Prop) (m : Nat) (h0 : I m s) (hr : ∀ m s, I m s → W E rd ys lo c s fun x s1 => match x with | .normal => ∃ m', m' < m ∧ I m' s1 | x => Q x s1) : W E rd ys lo (.loop c) s Q := by
  induction m using Nat.strongRecOn generalizing s with
  | _ m ih =>
    obtain ⟨n, x, s1, h1, h2⟩ := hr m s h0
    cases x with
    | normal =>
      obtain ⟨m', hlt, hI⟩ := h2
      obtain ⟨k, y, s2, h3, h4⟩ := ih m' hlt hI
      refine ⟨max n k + 1, y, s2, ?_, h4⟩
      simp only [exec, execF, exec_mono (Nat.le_max_left n k) _ _ _ _ _ _ h1]
      exact exec_mono (Nat.le_max_right n k) _ _ _ _ _ _ h3
    | exit id => exact ⟨n + 1, _, s1, by simp only [exec, execF, h1], h2⟩
    | ret => exact ⟨n + 1, _, s1, by simp only [exec, execF, h1], h2⟩
theorem W.region {id : Nat} {ops : Array Oper} (h : WO E ys lo ops.toList ops.toList s fun s' _ => Q .normal s') : W E rd ys lo (.region id ops false) s Q := by
  obtain ⟨n, s', trs, h1, h2⟩ := h
  exact ⟨n + 1, .normal, s', by simp only [exec, execF, h1, Bool.false_eq_true, if_false], h2⟩
theorem W.region_draw {id : Nat} {ops : Array Oper} (h : WO E ys lo ops.toList ops.toList s fun s' trs => (okBack ops.toList 0 && okPairs (aheads ops.toList [] 0) (slotTrs ops.toList ops.toList) 0 [] && okPairs (aheads ops.toList [] 0) trs 0 []) = true ∧ Q .normal s') : W E rd ys lo (.region id ops true) s Q := by
  obtain ⟨n, s', trs, h1, h2, h3⟩ := h
  exact ⟨n + 1, .normal, s', by simp only [exec, execF, h1, if_true, h2], h3⟩

theorem WO.nil {ops : List Oper} {K : St → List Tr → Prop} (h : K s []) : WO E ys lo ops [] s K := ⟨0, s, [], rfl, h⟩
/-- An operation that does not call. -/
theorem WO.prim {ops rest : List Oper} {o : Oper} {s1 : St} {tr : Tr} {K : St → List Tr → Prop} (h : ∀ cf, stepOp E cf lo ops o s = some (s1, tr)) (hk : WO E ys lo ops rest s1 fun s' trs => K s' (tr :: trs)) : WO E ys lo ops (o :: rest) s K := by
  obtain ⟨n, s', trs, h1, h2⟩ := hk
  exact ⟨n, s', tr :: trs, by simp only [runOps, h, h1], h2⟩
/-- An operation, whatever it is. -/
theorem WO.step {ops rest : List Oper} {o : Oper} {s1 : St} {tr : Tr} {K : St → List Tr → Prop} {m : Nat} (h : stepOp E (callF E (exec E m) ys lo) lo ops o s = some (s1, tr)) (hk : WO E ys lo ops rest s1 fun s' trs => K s' (tr :: trs)) : WO E ys lo ops (o :: rest) s K := by
  obtain ⟨n, s', trs, h1, h2⟩ := hk
  refine ⟨max m n, s', tr :: trs, ?_, h2⟩
  simp only [runOps, stepOp_mono (exec_mono (Nat.le_max_left m n)) h, runOps_mono (exec_mono (Nat.le_max_right m n)) h1]
/-- A call, by its function's body. -/
theorem WC.intro {f : FuncId} {fn : Func} {body : Code} {args : List AV} {H : AHeap} {K : AV → AHeap → Prop} (hf : E.P.funcs[f]? = some fn) (hb : fn.body = some body) (hl : args.length ≤ fn.ntmps)
    (h : W E false ys lo body ⟨Slots.of fn.ntmps args, H⟩ fun x s' => match x with | .exit _ => False | _ => ∃ r, resultsA E.P fn s' = some r ∧ K r s'.H) : WC E ys lo f args H K := by
  obtain ⟨n, x, s', h1, h2⟩ := h
  have hl' : ¬ fn.ntmps < args.length := by omega
  cases x with
  | exit id => exact h2.elim
  | normal =>
    obtain ⟨r, h3, h4⟩ := h2
    exact ⟨n, r, s'.H, by simp only [acall, callG, hf, hb, if_neg hl', fL_eq fH_eq, Slots.mk'_of, h1, h3, fA_eq], h4⟩
  | ret =>
    obtain ⟨r, h3, h4⟩ := h2
    exact ⟨n, r, s'.H, by simp only [acall, callG, hf, hb, if_neg hl', fL_eq fH_eq, Slots.mk'_of, h1, h3, fA_eq], h4⟩
end

end Go.Am

namespace Go.Am

theorem putS_bind {R : Type} (tm : Slots) (dst : Option Tmp) (x : AV) (k : Slots → Option R) {tm1 : Slots} (h : putS tm dst x some = some tm1) : putS tm dst x k = k tm1 := by
  cases dst with
  | none => simp only [putS, Option.some.injEq] at h ⊢; rw [h]
  | some d =>
    obtain ⟨n, c⟩ := tm
    simp only [putS, Slots.set] at h ⊢
    split at h
    · simp only [setR_eq] at h ⊢
      split at h
      · rename_i h1
        rw [if_pos h1]
        split at h
        · rename_i h2
          rw [if_pos h2]
          simp only [Option.some.injEq] at h
          rw [h]
        · cases h
      · cases h
    · simp only [Option.some.injEq] at h
      rw [h]

theorem hand_pure (H : AHeap) (lo : Nat) (G : AHeap) (x : AV) : hand H lo false G x = some (renV H lo G.next [] frzDepth x, G) := by
  simp [hand, nodupN, blksS_eq, blksA, renVS_eq, pushS_eq, pushAll]

section
variable {E : Env} {ys : List (Nat × LRec)} {lo : Nat} {s : St} {ops rest : List Oper} {o : Oper} {K : St → List Tr → Prop} {f : FuncId} {args : List AV} {tm1 : Slots}

/-- A call of a pure function on values without names. r: its result, frozen. -/
theorem WO.pure {r : AV} (hw : wantedA o ops s.tm = some true) (hp : plan E o (aev s.tm) = .call f args) (hpol : E.pol f = .pure) (hnf : args.all nf = true)
    (hc : WC E [] 0 f args .empty fun r0 H' => ∀ b, renV H' 0 b [] frzDepth r0 = r) (hset : putS s.tm o.dst r some = some tm1) (hk : WO E ys lo ops rest ⟨tm1, s.H⟩ fun s' trs => K s' (⟨0, 0, 0⟩ :: trs)) : WO E ys lo ops (o :: rest) s K := by
  obtain ⟨n, r0, H', h1, h2⟩ := hc
  refine WO.step (m := n) (s1 := ⟨tm1, s.H⟩) (tr := ⟨0, 0, 0⟩) ?_ hk
  have h1' : (callF E (exec E n) ys lo).call false 0 f args .empty = some (r0, H') := h1
  have hz : newBits s.H.next (s.H.next - s.H.next) = 0 := by simp [newBits]
  simp only [stepOp, hw, hp, runPlan, hpol, hnf, if_true, h1', hand_pure, h2, hz, fNat_eq]
  rw [putS_bind _ _ _ _ hset]
/-- A call of a function that works on the shared heap. -/
theorem WO.eff {r : AV} {H' : AHeap} (hw : wantedA o ops s.tm = some true) (hp : plan E o (aev s.tm) = .call f args) (hpol : E.pol f = .eff)
    (hc : WC E ys lo f args s.H fun r0 H0 => r0 = r ∧ H0 = H') (hset : putS s.tm o.dst r some = some tm1) (hk : WO E ys lo ops rest ⟨tm1, H'⟩ fun s' trs => K s' (⟨0, 0, 2⟩ :: trs)) : WO E ys lo ops (o :: rest) s K := by
  obtain ⟨n, r0, H0, h1, rfl, rfl⟩ := hc
  refine WO.step (m := n) (s1 := ⟨tm1, H0⟩) (tr := ⟨0, 0, 2⟩) ?_ hk
  have h1' : (callF E (exec E n) ys lo).call true lo f args s.H = some (r0, H0) := h1
  simp only [stepOp, hw, hp, runPlan, hpol, h1']
  rw [putS_bind _ _ _ _ hset]
end

end Go.Am
