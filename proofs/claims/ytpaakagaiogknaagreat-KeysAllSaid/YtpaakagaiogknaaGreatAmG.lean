/- Loops over functions; slices that grow by more than one. -/
import Derived.Test.YtpaakagaiogknaaGreatAmD
set_option linter.all false
set_option linter.deprecated false
namespace Go.Am
set_option linter.all false
/-- A heap under other loops. -/
def AHeap.wj (H : AHeap) (J : List LS) : AHeap := { H with js := J }
theorem get_wj (H : AHeap) (J : List LS) (n : Nat) : (H.wj J).get n = H.get n := rfl
theorem next_wj (H : AHeap) (J : List LS) : (H.wj J).next = H.next := rfl
attribute [go_sem] get_wj next_wj
theorem Ext.wj {H0 H : AHeap} (h : Ext H0 H) (J : List LS) : Ext H0 (H.wj J) := ⟨h.next, h.get⟩
theorem Slots.set_bind {R : Type} (tm : Slots) (t : Tmp) (x : AV) (k : Slots → Option R) : tm.set t x k = (tm.set t x some).bind k := by
  obtain ⟨n, c⟩ := tm
  simp only [Slots.set]
  split
  · simp only [setR_eq]
    split
    · split <;> rfl
    · rfl
  · rfl
/-- What a yield does: P holds of its result and the heap thereafter. -/
def YR (E : Env) (ys : List (Nat × LRec)) (lo k : Nat) (args : List AV) (H : AHeap) (P : AV → AHeap → Prop) : Prop :=
  ∃ n x H', (callF E (exec E n) ys lo).yield k args H = some (x, H') ∧ P x H'
theorem callA_yl (k : Nat) (args : List AV) : callA (.yl k) args = .yield k args := rfl
attribute [go_sem] callA_yl
section
variable {E : Env} {ys : List (Nat × LRec)} {lo : Nat} {ops rest : List Oper} {o : Oper} {acc : List Tr} {K : St → List Tr → Prop} {tm : Slots} {H : AHeap}
theorem RKp.yield {k : Nat} {args : List AV} {P : AV → AHeap → Prop} {tmf : AV → Slots} (hc : YR E ys lo k args H P) (hs : ∀ x, putS tm o.dst x some = some (tmf x)) (hk : ∀ x H', P x H' → RK E ys lo ops rest ⟨tmf x, H'⟩ (⟨0, 0, 2⟩ :: acc) K) : RKp E ys lo ops o rest tm H acc K (.yield k args) :=
  ⟨fun e => by
    obtain ⟨n, x, H', h1, h2⟩ := hc
    exact RKy.yld (n := n) e h1 (hs x) (hk x H' h2)⟩
end
/-- A round of a loop over a function: the assignment, then the body. -/
theorem YR.intro {E : Env} {ys : List (Nat × LRec)} {lo k : Nat} {args : List AV} {H : AHeap} {P : AV → AHeap → Prop} {k' : Nat} {r : LRec} {tm : Slots} (hf : ys.find? (fun p => p.1 == k) = some (k', r)) (hj : H.js[k]? = some .on) (hl : r.params.length = args.length) (ht : setAll r.tm (r.params.zip args) some = some tm)
    (ha : V E true [] lo r.assign ⟨tm, H⟩ fun x s1 => x = .normal ∧ V E true [] lo r.body ⟨s1.tm, s1.H.wj (s1.H.js.set k .busy)⟩ fun y s2 => match y with
      | .normal => P (.v (.bool true)) (s2.H.wj (s2.H.js.set k .on))
      | y => P (.v (.bool false)) (s2.H.wj (s2.H.js.set k (.jump y)))) : YR E ys lo k args H P := by
  obtain ⟨n, x, s1, h1, rfl, ⟨m, y, s2, h2, h3⟩⟩ := ha.w
  have e1 := exec_mono (Nat.le_max_left n m) _ _ _ _ _ _ h1
  have e2 := exec_mono (Nat.le_max_right n m) _ _ _ _ _ _ h2
  have hst : ∀ (tm0 : Slots) (l : List (Tmp × AV)) (R : Type) (f : Slots → Option R), setAll tm0 l some = some tm → setAll tm0 l f = f tm := by
    intro tm0 l R f h
    induction l generalizing tm0 with
    | nil => simp only [setAll, Option.some.injEq] at h ⊢; rw [h]
    | cons p l ih =>
      obtain ⟨t, x⟩ := p
      simp only [setAll] at h ⊢
      rw [Slots.set_bind] at h ⊢
      cases hs : tm0.set t x some with
      | none => rw [hs] at h; cases h
      | some t1 => rw [hs] at h; exact ih t1 h
  refine ⟨max n m, ?_⟩
  have hb : exec E (max n m) true [] lo r.body ⟨s1.tm, { s1.H with js := s1.H.js.set k .busy }⟩ = some (y, s2) := e2
  simp only [callF, yieldG, hf, hj, if_pos hl, hst _ _ _ _ ht, e1, hb]
  cases y with
  | normal => exact ⟨_, _, rfl, h3⟩
  | exit id => exact ⟨_, _, rfl, h3⟩
  | ret => exact ⟨_, _, rfl, h3⟩
/-! Slices that grow. -/
theorem plan_makeFunc0 (E : Env) (ρ : Operand → AV) (d : Option Tmp) (ty : TypeId) (pos : String) (af : Array Edge) (g : Option (Nat × Bool)) (f : FuncId) : plan E ⟨d, .makeFunc (.func f) #[] #[], ty, pos, af, g⟩ ρ = .val (.fn f []) := rfl
theorem plan_makeFunc1 (E : Env) (ρ : Operand → AV) (d : Option Tmp) (ty : TypeId) (pos : String) (af : Array Edge) (g : Option (Nat × Bool)) (f : FuncId) (c : Operand) : plan E ⟨d, .makeFunc (.func f) #[] #[c], ty, pos, af, g⟩ ρ = match cellsOf (ρ c) with
    | some _ => .val (.fn f [ρ c])
    | none => .bad := by
  simp only [plan]
  show (match ([c].map ρ).mapM cellsOf with
    | some _ => Plan.val (.fn f ([c].map ρ))
    | none => .bad) = _
  simp only [List.map_cons, List.map_nil, List.mapM_cons, List.mapM_nil]
  cases cellsOf (ρ c) <;> rfl
attribute [go_sem] plan_makeFunc0 plan_makeFunc1
theorem WC.mono {E : Env} {ys : List (Nat × LRec)} {lo : Nat} {f : FuncId} {args : List AV} {H : AHeap} {K K' : AV → AHeap → Prop} (h : WC E ys lo f args H K) (hk : ∀ r G, K r G → K' r G) : WC E ys lo f args H K' := by
  obtain ⟨n, r, G, h1, h2⟩ := h
  exact ⟨n, r, G, h1, hk r G h2⟩
end Go.Am
