/- Loops over functions; slices that grow by more than one. -/
import Derived.Test.YtmcimfmibpfnhaaGreatAmD
set_option linter.all false
set_option linter.deprecated false
namespace Go.Am
set_option linter.all false
/-- A heap under other loops. -/
def AHeap.wj (H : AHeap) (J : List LS) : AHeap := { H with js := J }
theorem get_wj (H : AHeap) (J : List LS) (n : Nat) : (H.wj J).get n = H.get n := rfl
theorem next_wj (H : AHeap) (J : List LS) : (H.wj J).next = H.next := rfl
theorem js_wj (H : AHeap) (J : List LS) : (H.wj J).js = J := rfl
attribute [go_sem] get_wj next_wj
theorem Ext.wj {H0 H : AHeap} (h : Ext H0 H) (J : List LS) : Ext H0 (H.wj J) := ⟨h.next, h.get⟩
/-- A heap that goes on from another, under the same loops. -/
structure ExJ (H0 H : AHeap) : Prop where
  x : Ext H0 H
  j : H.js = H0.js
theorem ExJ.refl (H : AHeap) : ExJ H H := ⟨Ext.refl _, rfl⟩
theorem ExJ.push {H0 H : AHeap} (h : ExJ H0 H) (b : Blk) : ExJ H0 (H.push b) := ⟨h.x.push b, h.j⟩
theorem ExJ.set {H0 H : AHeap} (h : ExJ H0 H) {m : Nat} (hm : H0.next ≤ m) (b : Blk) : ExJ H0 (H.set m b) := ⟨h.x.set hm b, h.j⟩
theorem ExJ.trans {A B C : AHeap} (h : ExJ A B) (k : ExJ B C) : ExJ A C := ⟨h.x.trans k.x, k.j.trans h.j⟩
theorem Slots.set_bind {R : Type} (tm : Slots) (t : Tmp) (x : AV) (k : Slots → Option R) : tm.set t x k = (tm.set t x some).bind k := by
  obtain ⟨n, c⟩ := tm
  simp only [Slots.set]
  split
  · simp only [setR_eq]
    split
    · split <;> rfl
    · rfl
  · rfl
/-- What a yield does: P holds of its result and the heap thereafter. -/
def YR (E : Env) (ys : List (Nat × LRec)) (lo k : Nat) (args : List AV) (H : AHeap) (P : AV → AHeap → Prop) : Prop :=
  ∃ n x H', (callF E (exec E n) ys lo).yield k args H = some (x, H') ∧ P x H'
theorem callA_yl (k : Nat) (args : List AV) : callA (.yl k) args = .yield k args := rfl
attribute [go_sem] callA_yl
section
variable {E : Env} {ys : List (Nat × LRec)} {lo : Nat} {ops rest : List Oper} {o : Oper} {acc : List Tr} {K : St → List Tr → Prop} {tm : Slots} {H : AHeap}
theorem RKp.yield {k : Nat} {args : List AV} {P : AV → AHeap → Prop} {tmf : AV → Slots} (hc : YR E ys lo k args H P) (hs : ∀ x, putS tm o.dst x some = some (tmf x)) (hk : ∀ x H', P x H' → RK E ys lo ops rest ⟨tmf x, H'⟩ (⟨0, 0, 2⟩ :: acc) K) : RKp E ys lo ops o rest tm H acc K (.yield k args) :=
  ⟨fun e => by
    obtain ⟨n, x, H', h1, h2⟩ := hc
    exact RKy.yld (n := n) e h1 (hs x) (hk x H' h2)⟩
end
/-- A round of a loop over a function: the assignment, then the body. -/
theorem YR.intro {E : Env} {ys : List (Nat × LRec)} {lo k : Nat} {args : List AV} {H : AHeap} {P : AV → AHeap → Prop} {k' : Nat} {r : LRec} {tm : Slots} (hf : ys.find? (fun p => p.1 == k) = some (k', r)) (hj : H.js[k]? = some .on) (hl : r.params.length = args.length) (ht : setAll r.tm (r.params.zip args) some = some tm)
    (ha : V E true [] lo r.assign ⟨tm, H⟩ fun x s1 => x = .normal ∧ V E true [] lo r.body ⟨s1.tm, s1.H.wj (s1.H.js.set k .busy)⟩ fun y s2 => match y with
      | .normal => P (.v (.bool true)) (s2.H.wj (s2.H.js.set k .on))
      | y => P (.v (.bool false)) (s2.H.wj (s2.H.js.set k (.jump y)))) : YR E ys lo k args H P := by
  obtain ⟨n, x, s1, h1, rfl, ⟨m, y, s2, h2, h3⟩⟩ := ha.w
  have e1 := exec_mono (Nat.le_max_left n m) _ _ _ _ _ _ h1
  have e2 := exec_mono (Nat.le_max_right n m) _ _ _ _ _ _ h2
  have hst : ∀ (tm0 : Slots) (l : List (Tmp × AV)) (R : Type) (f : Slots → Option R), setAll tm0 l some = some tm → setAll tm0 l f = f tm := by
    intro tm0 l R f h
    induction l generalizing tm0 with
    | nil => simp only [setAll, Option.some.injEq] at h ⊢; rw [h]
    | cons p l ih =>
      obtain ⟨t, x⟩ := p
      simp only [setAll] at h ⊢
      rw [Slots.set_bind] at h ⊢
      cases hs : tm0.set t x some with
      | none => rw [hs] at h; cases h
      | some t1 => rw [hs] at h; exact ih t1 h
  refine ⟨max n m, ?_⟩
  have hb : exec E (max n m) true [] lo r.body ⟨s1.tm, { s1.H with js := s1.H.js.set k .busy }⟩ = some (y, s2) := e2
  simp only [callF, yieldG, hf, hj, if_pos hl, hst _ _ _ _ ht, e1, hb]
  cases y with
  | normal => exact ⟨_, _, rfl, h3⟩
  | exit id => exact ⟨_, _, rfl, h3⟩
  | ret => exact ⟨_, _, rfl, h3⟩
/-- A loop over a function. -/
theorem V.rf {E : Env} {ys : List (Nat × LRec)} {lo : Nat} {f : Operand} {params : Array Tmp} {assign body : Code} {tm : Slots} {H : AHeap} {g : FuncId} {caps : List AV} {Q : AX → St → Prop} (hf : aev tm f = .fn g caps) (hp : E.pol g = .eff)
    (h : WC E ((H.js.length, ⟨tm, params.toList, assign, body⟩) :: ys) lo g (.yl H.js.length :: caps) (H.wj (H.js ++ [.on])) fun _ H' => match H'.js[H.js.length]? with
      | some .on => Q .normal ⟨tm, H'.wj (H'.js.set H.js.length .off)⟩
      | some (.jump x) => Q x ⟨tm, H'.wj (H'.js.set H.js.length .off)⟩
      | _ => False) : V E false ys lo (.rangeFunc f params assign body) ⟨tm, H⟩ Q := by
  obtain ⟨n, r, H', h1, h2⟩ := h
  have h1' : callG E (exec E n) ((H.js.length, ⟨tm, params.toList, assign, body⟩) :: ys) lo g (.yl H.js.length :: caps) { H with js := H.js ++ [.on] } = some (r, H') := h1
  cases hj : H'.js[H.js.length]? with
  | none => rw [hj] at h2; exact h2.elim
  | some l =>
    rw [hj] at h2
    cases l with
    | on => exact ⟨⟨n + 1, .normal, _, by simp only [exec, execF, Bool.false_eq_true, if_false, hf, hp, h1', hj]; rfl, h2⟩⟩
    | jump x => exact ⟨⟨n + 1, x, _, by simp only [exec, execF, Bool.false_eq_true, if_false, hf, hp, h1', hj]; rfl, h2⟩⟩
    | busy => exact h2.elim
    | off => exact h2.elim
/-! Slices that grow. -/
def nmO (x : AV) (k : Nat) : Prop := ∃ e off len, x = .os k e off len
theorem OwS.addN (E : Env) (lo : Nat) {H : AHeap} {t elem bytes sz base : Nat} {x y : AV} {es new : List (List AV)} (ho : OwS H base elem sz x es) (h : appInfo E.P t = some (elem, bytes, sz)) (hy : SlH H sz y new) (hn : ∀ k, nmO x k → ¬ nmO y k) (hlo : lo ≤ base) (hbn : base ≤ H.next) (hr : (es.length + new.length) * bytes ≤ roomMax) :
    ∃ x' H' tr, primL lo H (appendA E t x y) = some (x', H', tr) ∧ OwS H' base elem sz x' (es ++ new) ∧ H.next ≤ H'.next ∧ (∀ k, k < H.next → ¬ nmO x k → H'.get k = H.get k) ∧ H'.js = H.js ∧ ∀ k, nmO x' k → nmO x k ∨ H.next ≤ k := by
  rcases ho with ⟨rfl, hs⟩ | ⟨n, e, rfl, hb, hl, hg⟩
  · by_cases h0 : new = []
    · subst h0
      exact ⟨x, H, _, append_new0 E lo hs h hy, .inl ⟨rfl, hs⟩, Nat.le_refl _, fun _ _ _ => rfl, rfl, fun k hk => .inl hk⟩
    · refine ⟨_, _, _, append_new E lo hs h hy h0 (by simpa using hr), .inr ⟨H.next, 0, rfl, hbn, by rw [next_push]; omega, by rw [get_push, if_pos rfl]; rfl⟩, by rw [next_push]; omega, fun k hk _ => by rw [get_push, if_neg (by omega)], rfl, fun k hk => by
        obtain ⟨_, _, _, hx⟩ := hk; cases hx; exact .inr (Nat.le_refl _)⟩
  · by_cases h0 : new = []
    · subst h0
      obtain ⟨tr, _, h1⟩ := append_os0 E lo (off := 0) (len := es.length) h hg ⟨rfl, rfl, by simp, rfl, rfl⟩ hy (fun m e' off len hm hnm => hn n ⟨_, _, _, rfl⟩ ⟨_, _, _, by rw [hm, hnm]⟩)
      exact ⟨_, H, tr, h1, .inr ⟨n, e, by simp, hb, hl, by simpa using hg⟩, Nat.le_refl _, fun _ _ _ => rfl, rfl, fun k hk => .inl hk⟩
    · obtain ⟨tr, h1⟩ := append_os E lo (off := 0) (len := es.length) h hg ⟨rfl, rfl, by simp, rfl, rfl⟩ hy (fun m e' off len hm hnm => hn n ⟨_, _, _, rfl⟩ ⟨_, _, _, by rw [hm, hnm]⟩) h0 hr (by omega)
      refine ⟨_, _, tr, h1, .inr ⟨n, e + 1, by rw [List.length_append], hb, by rw [next_set]; exact hl, by rw [get_set, if_pos rfl]; simp⟩, by rw [next_set]; exact Nat.le_refl _, fun k hk hn => by rw [get_set, if_neg (fun z => hn ⟨_, _, _, by rw [z]⟩)], rfl, fun k hk => by
        obtain ⟨_, _, _, hx⟩ := hk; cases hx; exact .inl ⟨_, _, _, rfl⟩⟩
theorem OwS.nm {H : AHeap} {base elem sz : Nat} {x : AV} {es : List (List AV)} (h : OwS H base elem sz x es) {k : Nat} (hk : nmO x k) : base ≤ k ∧ k < H.next := by
  obtain ⟨_, _, _, hx⟩ := hk
  rcases h with ⟨_, rfl | rfl⟩ | ⟨n, e, rfl, h1, h2, _⟩
  · cases hx
  · cases hx
  · cases hx; exact ⟨h1, h2⟩
theorem Sl.nmO {sz k : Nat} {x : AV} {es : List (List AV)} (h : Sl sz x es) (hk : nmO x k) : False := by
  obtain ⟨_, _, _, hx⟩ := hk
  rcases h with rfl | ⟨_, rfl | rfl⟩ <;> cases hx
theorem plan_makeFunc0 (E : Env) (ρ : Operand → AV) (d : Option Tmp) (ty : TypeId) (pos : String) (af : Array Edge) (g : Option (Nat × Bool)) (f : FuncId) : plan E ⟨d, .makeFunc (.func f) #[] #[], ty, pos, af, g⟩ ρ = .val (.fn f []) := rfl
theorem plan_makeFunc1 (E : Env) (ρ : Operand → AV) (d : Option Tmp) (ty : TypeId) (pos : String) (af : Array Edge) (g : Option (Nat × Bool)) (f : FuncId) (c : Operand) : plan E ⟨d, .makeFunc (.func f) #[] #[c], ty, pos, af, g⟩ ρ = match cellsOf (ρ c) with
    | some _ => .val (.fn f [ρ c])
    | none => .bad := by
  simp only [plan]
  show (match ([c].map ρ).mapM cellsOf with
    | some _ => Plan.val (.fn f ([c].map ρ))
    | none => .bad) = _
  simp only [List.map_cons, List.map_nil, List.mapM_cons, List.mapM_nil]
  cases cellsOf (ρ c) <;> rfl
attribute [go_sem] plan_makeFunc0 plan_makeFunc1
theorem WC.mono {E : Env} {ys : List (Nat × LRec)} {lo : Nat} {f : FuncId} {args : List AV} {H : AHeap} {K K' : AV → AHeap → Prop} (h : WC E ys lo f args H K) (hk : ∀ r G, K r G → K' r G) : WC E ys lo f args H K' := by
  obtain ⟨n, r, G, h1, h2⟩ := h
  exact ⟨n, r, G, h1, hk r G h2⟩
end Go.Am
