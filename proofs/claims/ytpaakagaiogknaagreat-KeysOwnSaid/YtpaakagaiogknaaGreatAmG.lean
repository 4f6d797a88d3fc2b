/- Loops over functions; slices that grow by more than one. -/
import Derived.Test.YtpaakagaiogknaaGreatAmD
set_option linter.all false
set_option linter.deprecated false
namespace Go.Am
set_option linter.all false
/-- A heap under other loops. -/
def AHeap.wj (H : AHeap) (J : List LS) : AHeap := { H with js := J }
theorem get_wj (H : AHeap) (J : List LS) (n : Nat) : (H.wj J).get n = H.get n := rfl
theorem next_wj (H : AHeap) (J : List LS) : (H.wj J).next = H.next := rfl
attribute [go_sem] get_wj next_wj
theorem Ext.wj {H0 H : AHeap} (h : Ext H0 H) (J : List LS) : Ext H0 (H.wj J) := ⟨h.next, h.get⟩
theorem callA_yl (k : Nat) (args : List AV) : callA (.yl k) args = .yield k args := rfl
attribute [go_sem] callA_yl
section
variable {E : Env} {ys : List (Nat × LRec)} {lo : Nat} {ops rest : List Oper} {o : Oper} {acc : List Tr} {K : St → List Tr → Prop} {tm : Slots} {H : AHeap}
end
/-! Slices that grow. -/
theorem plan_makeFunc0 (E : Env) (ρ : Operand → AV) (d : Option Tmp) (ty : TypeId) (pos : String) (af : Array Edge) (g : Option (Nat × Bool)) (f : FuncId) : plan E ⟨d, .makeFunc (.func f) #[] #[], ty, pos, af, g⟩ ρ = .val (.fn f []) := rfl
theorem plan_makeFunc1 (E : Env) (ρ : Operand → AV) (d : Option Tmp) (ty : TypeId) (pos : String) (af : Array Edge) (g : Option (Nat × Bool)) (f : FuncId) (c : Operand) : plan E ⟨d, .makeFunc (.func f) #[] #[c], ty, pos, af, g⟩ ρ = match cellsOf (ρ c) with
    | some _ => .val (.fn f [ρ c])
    | none => .bad := by
  simp only [plan]
  show (match ([c].map ρ).mapM cellsOf with
    | some _ => Plan.val (.fn f ([c].map ρ))
    | none => .bad) = _
  simp only [List.map_cons, List.map_nil, List.mapM_cons, List.mapM_nil]
  cases cellsOf (ρ c) <;> rfl
attribute [go_sem] plan_makeFunc0 plan_makeFunc1
theorem WC.mono {E : Env} {ys : List (Nat × LRec)} {lo : Nat} {f : FuncId} {args : List AV} {H : AHeap} {K K' : AV → AHeap → Prop} (h : WC E ys lo f args H K) (hk : ∀ r G, K r G → K' r G) : WC E ys lo f args H K' := by
  obtain ⟨n, r, G, h1, h2⟩ := h
  exact ⟨n, r, G, h1, hk r G h2⟩
end Go.Am
