/- What a plan that calls comes from; what such an operation is in the model. -/
import Derived.Test.YtoeemmlfcnokiaaGreatAmRun6
set_option linter.all false
set_option linter.deprecated false
namespace Go.Am

def Plan.quiet : Plan → Bool
  | .prim _ _ | .bad => true
  | _ => false
section
variable (E : Env)
@[simp] theorem quiet_val (x : AV) : (Plan.val x).quiet = true := rfl
@[simp] theorem quiet_opt (x : Option AV) : (Plan.opt x).quiet = true := rfl
@[simp] theorem quiet_live (n e : Nat) (x : AV) : (live n e x).quiet = true := rfl
@[simp] theorem quiet_prim (rd : List Nat) (k : List Blk → Option Eff) : (Plan.prim rd k).quiet = true := rfl
@[simp] theorem quiet_bad : Plan.bad.quiet = true := rfl
@[simp] theorem quiet_srd (x : AV) (k : Nat → List (List AV) → Option Eff) : (srd x k).quiet = true := by unfold srd; split <;> rfl
@[simp] theorem quiet_eqPlan (t : TypeId) (neg : Bool) (x y : AV) : (eqPlan E t neg x y).quiet = true := by
  unfold eqPlan
  try dsimp only
  repeat' split
  all_goals first | rfl | simp
@[simp] theorem quiet_binOpA (op : BinOp) (t : TypeId) (xo yo : Operand) (x y : AV) : (binOpA E op t xo yo x y).quiet = true := by
  unfold binOpA
  try dsimp only
  repeat' split
  all_goals first | rfl | simp
@[simp] theorem quiet_convA (s d : TypeId) (x : AV) : (convA E s d x).quiet = true := by
  unfold convA
  try dsimp only
  repeat' split
  all_goals first | rfl | simp
@[simp] theorem quiet_sliceA (t : TypeId) (x : AV) (lo hi mx : Option AV) : (sliceA E t x lo hi mx).quiet = true := by
  unfold sliceA
  try dsimp only
  repeat' split
  all_goals first | rfl | simp
@[simp] theorem quiet_appendA (t : TypeId) (s x : AV) : (appendA E t s x).quiet = true := by
  unfold appendA
  try dsimp only
  repeat' split
  all_goals first | rfl | simp
@[simp] theorem quiet_copyA (t : TypeId) (s x : AV) : (copyA E t s x).quiet = true := by
  unfold copyA
  try dsimp only
  repeat' split
  all_goals first | rfl | simp
@[simp] theorem quiet_builtinA (b : Builtin) (ts : Array TypeId) (t : TypeId) (xs : List AV) : (builtinA E b ts t xs).quiet = true := by
  unfold builtinA
  try dsimp only
  repeat' split
  all_goals first | rfl | simp
end

theorem plan_loud {E : Env} {o : Oper} {ρ : Operand → AV} (h : (plan E o ρ).quiet = false) :
    ∃ c fo, o.op = .call c ∧ c.callee = .value fo ∧ ((∃ f caps, ρ fo = .fn f caps ∧ plan E o ρ = .call f (c.args.toList.map ρ ++ caps)) ∨ ∃ k, ρ fo = .yl k ∧ plan E o ρ = .yield k (c.args.toList.map ρ)) := by
  cases ho : o.op with
  | call c =>
    cases hc : c.callee with
    | value fo =>
      refine ⟨c, fo, rfl, hc, ?_⟩
      simp only [plan, ho, hc] at h ⊢
      cases hf : ρ fo <;> simp_all
    | invoke r m => simp [plan, ho, hc] at h
    | builtin b => simp [plan, ho, hc] at h
  | next it b =>
    exfalso
    cases b <;> simp only [plan, ho] at h <;> revert h <;> (repeat' split) <;> (intro h; cases h; done)
  | _ =>
    exfalso
    simp only [plan, ho] at h
    revert h
    repeat' split
    all_goals first | (intro h; cases h; done) | simp

section
variable {E : Env} {C : Ctx} {o : Oper} {c : Call} {fo : Operand} {ρ : Operand → AV} {ev : Operand → Value}

theorem run_call {P : Program} (ho : o.op = .call c) (hc : c.callee = .value fo) {f : FuncId} {caps : Array Value} (hf : ev fo = .func (.func f) #[] caps) (w : World) :
    (execOp ev o).run P w = (callFunc f (c.args.map ev ++ caps)).run P w := by
  simp [execOp, ho, resolve, hc, hf, Deferred.ofValue, invoke]
theorem run_callYield {P : Program} (ho : o.op = .call c) (hc : c.callee = .value fo) {l : Nat} (hf : ev fo = .func (.yield l) #[] #[]) (w : World) :
    (execOp ev o).run P w = (Instr.yield l (c.args.map ev)).run P w := by
  simp [execOp, ho, resolve, hc, hf, Deferred.ofValue, invoke]

theorem args_rel (c : Call) (h : ∀ x ∈ c.args, VR C (ρ x) (ev x)) : ARel C (c.args.toList.map ρ) (c.args.map ev) := by
  refine ⟨by simp, fun i hi => ?_⟩
  have hi' : i < c.args.size := by simpa using hi
  have := h c.args[i] (by simp)
  simpa [List.getD_eq_getElem?_getD, Array.getD_eq_getD_getElem?, hi'] using this
theorem ARel.append {xs ys : List AV} {vs us : Array Value} (h : ARel C xs vs) (k : ∀ i, i < ys.length → VR C (ys.getD i .dead) (us.getD i undef)) (hl : us.size = ys.length) : ARel C (xs ++ ys) (vs ++ us) := by
  refine ⟨by simp [h.1, hl], fun i hi => ?_⟩
  rw [List.length_append] at hi
  rw [getD_append]
  have e : (vs ++ us).getD i undef = if i < xs.length then vs.getD i undef else us.getD (i - xs.length) undef := by
    simp only [Array.getD_eq_getD_getElem?]
    split
    · rename_i h1; rw [Array.getElem?_append_left (by rw [h.1]; exact h1)]
    · rename_i h1; rw [Array.getElem?_append_right (by rw [h.1]; omega), h.1]
  rw [e]
  split
  · rename_i h1; exact h.2 i h1
  · exact k _ (by omega)
end

end Go.Am
