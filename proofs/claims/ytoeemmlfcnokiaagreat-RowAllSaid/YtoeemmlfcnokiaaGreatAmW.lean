/- Runs of the machine, without fuel: rules. -/
import Derived.Test.YtoeemmlfcnokiaaGreatAmMono
set_option linter.all false
set_option linter.deprecated false
namespace Go.Am

/-- A piece of code runs, and ends so. -/
def W (E : Env) (rd : Bool) (ys : List (Nat × LRec)) (lo : Nat) (c : Code) (s : St) (Q : AX → St → Prop) : Prop :=
  ∃ n x s', exec E n rd ys lo c s = some (x, s') ∧ Q x s'
/-- The operations of a region, from one on. -/
def WO (E : Env) (ys : List (Nat × LRec)) (lo : Nat) (ops rest : List Oper) (s : St) (K : St → List Tr → Prop) : Prop :=
  ∃ n s' trs, runOps E (callF E (exec E n) ys lo) lo ops rest s = some (s', trs) ∧ K s' trs
/-- A call. -/
def WC (E : Env) (ys : List (Nat × LRec)) (lo : Nat) (f : FuncId) (args : List AV) (H : AHeap) (K : AV → AHeap → Prop) : Prop :=
  ∃ n r H', acall E ys n lo f args H = some (r, H') ∧ K r H'

section
variable {E : Env} {rd : Bool} {ys : List (Nat × LRec)} {lo : Nat} {s : St} {Q : AX → St → Prop}

theorem W.mono {c : Code} {Q' : AX → St → Prop} (h : W E rd ys lo c s Q) (hq : ∀ x s, Q x s → Q' x s) : W E rd ys lo c s Q' :=
  let ⟨n, x, s', h1, h2⟩ := h; ⟨n, x, s', h1, hq _ _ h2⟩
theorem W.skip (h : Q .normal s) : W E rd ys lo .skip s Q := ⟨1, .normal, s, rfl, h⟩
theorem W.label {l : Nat} (h : Q .normal s) : W E rd ys lo (.label l) s Q := ⟨1, .normal, s, rfl, h⟩
theorem W.exit {id : Nat} (h : Q (.exit id) s) : W E rd ys lo (.exit id) s Q := ⟨1, .exit id, s, rfl, h⟩
theorem W.ret (h : Q .ret s) : W E rd ys lo .ret s Q := ⟨1, .ret, s, rfl, h⟩
theorem W.seq {a b : Code} (h : W E rd ys lo a s fun x s1 => match x with | .normal => W E rd ys lo b s1 Q | x => Q x s1) : W E rd ys lo (.seq a b) s Q := by
  obtain ⟨n, x, s1, h1, h2⟩ := h
  cases x with
  | normal =>
    obtain ⟨m, y, s2, h3, h4⟩ := h2
    refine ⟨max n m + 1, y, s2, ?_, h4⟩
    simp only [exec, execF, exec_mono (Nat.le_max_left n m) _ _ _ _ _ _ h1]
    exact exec_mono (Nat.le_max_right n m) _ _ _ _ _ _ h3
  | exit id => exact ⟨n + 1, _, s1, by simp only [exec, execF, h1], h2⟩
  | ret => exact ⟨n + 1, _, s1, by simp only [exec, execF, h1], h2⟩
theorem W.cond {c : Operand} {a b : Code} {t : Bool} (hc : aev s.tm c = .v (.bool t)) (ht : t = true → W E rd ys lo a s Q) (hf : t = false → W E rd ys lo b s Q) : W E rd ys lo (.cond c a b) s Q := by
  cases t with
  | true =>
    obtain ⟨n, x, s', h1, h2⟩ := ht rfl
    exact ⟨n + 1, x, s', by simp only [exec, execF, hc, h1], h2⟩
  | false =>
    obtain ⟨n, x, s', h1, h2⟩ := hf rfl
    exact ⟨n + 1, x, s', by simp only [exec, execF, hc, h1], h2⟩
theorem W.block {id : Nat} {c : Code} (h : W E rd ys lo c s fun x s1 => match x with | .exit id' => if id' = id then Q .normal s1 else Q (.exit id') s1 | x => Q x s1) : W E rd ys lo (.block id c) s Q := by
  obtain ⟨n, x, s1, h1, h2⟩ := h
  cases x with
  | normal => exact ⟨n + 1, .normal, s1, by simp only [exec, execF, h1], h2⟩
  | ret => exact ⟨n + 1, .ret, s1, by simp only [exec, execF, h1], h2⟩
  | exit id' =>
    simp only at h2
    by_cases hid : id' = id
    · rw [if_pos hid] at h2
      exact ⟨n + 1, .normal, s1, by simp only [exec, execF, h1, if_pos hid], h2⟩
    · rw [if_neg hid] at h2
      exact ⟨n + 1, .exit id', s1, by simp only [exec, execF, h1, if_neg hid], h2⟩
theorem W.scope {c : Code} (h : W E rd ys lo c s Q) : W E rd ys lo (.scope c) s Q := by
  obtain ⟨n, x, s1, h1, h2⟩ := h
  exact ⟨n + 1, x, s1, by simp only [exec, execF, h1], h2⟩
/-- A loop, by an invariant and a measure. -/
theorem W.loop {c : Code} (I : Nat → St → Prop) (m : Nat) (h0 : I m s) (hr : ∀ m s, I m s → W E rd ys lo c s fun x s1 => match x with | .normal => ∃ m', m' < m ∧ I m' s1 | x => Q x s1) : W E rd ys lo (.loop c) s Q := by
  induction m using Nat.strongRecOn generalizing s with
  | _ m ih =>
    obtain ⟨n, x, s1, h1, h2⟩ := hr m s h0
    cases x with
    | normal =>
      obtain ⟨m', hlt, hI⟩ := h2
      obtain ⟨k, y, s2, h3, h4⟩ := ih m' hlt hI
      refine ⟨max n k + 1, y, s2, ?_, h4⟩
      simp only [exec, execF, exec_mono (Nat.le_max_left n k) _ _ _ _ _ _ h1]
      exact exec_mono (Nat.le_max_right n k) _ _ _ _ _ _ h3
    | exit id => exact ⟨n + 1, _, s1, by simp only [exec, execF, h1], h2⟩
    | ret => exact ⟨n + 1, _, s1, by simp only [exec, execF, h1], h2⟩
theorem W.region {id : Nat} {ops : Array Oper} (h : WO E ys lo ops.toList ops.toList s fun s' _ => Q .normal s') : W E rd ys lo (.region id ops false) s Q := by
  obtain ⟨n, s', trs, h1, h2⟩ := h
  exact ⟨n + 1, .normal, s', by simp only [exec, execF, h1, Bool.false_eq_true, if_false], h2⟩
theorem W.region_draw {id : Nat} {ops : Array Oper} (h : WO E ys lo ops.toList ops.toList s fun s' trs => (okBack ops.toList 0 && okPairs (aheads ops.toList [] 0) (slotTrs ops.toList ops.toList) 0 [] && okPairs (aheads ops.toList [] 0) trs 0 []) = true ∧ Q .normal s') : W E rd ys lo (.region id ops true) s Q := by
  obtain ⟨n, s', trs, h1, h2, h3⟩ := h
  exact ⟨n + 1, .normal, s', by simp only [exec, execF, h1, if_true, h2], h3⟩

theorem WO.nil {ops : List Oper} {K : St → List Tr → Prop} (h : K s []) : WO E ys lo ops [] s K := ⟨0, s, [], rfl, h⟩
/-- An operation that does not call. -/
theorem WO.prim {ops rest : List Oper} {o : Oper} {s1 : St} {tr : Tr} {K : St → List Tr → Prop} (h : ∀ cf, stepOp E cf lo ops o s = some (s1, tr)) (hk : WO E ys lo ops rest s1 fun s' trs => K s' (tr :: trs)) : WO E ys lo ops (o :: rest) s K := by
  obtain ⟨n, s', trs, h1, h2⟩ := hk
  exact ⟨n, s', tr :: trs, by simp only [runOps, h, h1], h2⟩
/-- An operation, whatever it is. -/
theorem WO.step {ops rest : List Oper} {o : Oper} {s1 : St} {tr : Tr} {K : St → List Tr → Prop} {m : Nat} (h : stepOp E (callF E (exec E m) ys lo) lo ops o s = some (s1, tr)) (hk : WO E ys lo ops rest s1 fun s' trs => K s' (tr :: trs)) : WO E ys lo ops (o :: rest) s K := by
  obtain ⟨n, s', trs, h1, h2⟩ := hk
  refine ⟨max m n, s', tr :: trs, ?_, h2⟩
  simp only [runOps, stepOp_mono (exec_mono (Nat.le_max_left m n)) h, runOps_mono (exec_mono (Nat.le_max_right m n)) h1]
/-- A call, by its function's body. -/
theorem WC.intro {f : FuncId} {fn : Func} {body : Code} {args : List AV} {H : AHeap} {K : AV → AHeap → Prop} (hf : E.P.funcs[f]? = some fn) (hb : fn.body = some body) (hl : args.length ≤ fn.ntmps)
    (h : W E false ys lo body ⟨Slots.of fn.ntmps args, H⟩ fun x s' => match x with | .exit _ => False | _ => ∃ r, resultsA E.P fn s' = some r ∧ K r s'.H) : WC E ys lo f args H K := by
  obtain ⟨n, x, s', h1, h2⟩ := h
  have hl' : ¬ fn.ntmps < args.length := by omega
  cases x with
  | exit id => exact h2.elim
  | normal =>
    obtain ⟨r, h3, h4⟩ := h2
    exact ⟨n, r, s'.H, by simp only [acall, callG, hf, hb, if_neg hl', fL_eq fH_eq, Slots.mk'_of, h1, h3, fA_eq], h4⟩
  | ret =>
    obtain ⟨r, h3, h4⟩ := h2
    exact ⟨n, r, s'.H, by simp only [acall, callG, hf, hb, if_neg hl', fL_eq fH_eq, Slots.mk'_of, h1, h3, fA_eq], h4⟩
end

end Go.Am
