/- What the abstract machine plans for an operation is what the model does: operations on values. -/
import Derived.Test.YtoeemmlfcnokiaaGreatAmBase
set_option linter.all false
set_option linter.deprecated false
namespace Go.Am

/-- '==' on a struct's cells, as the environment says it. -/
def eqVal : EK → Value → Value → Option Bool
  | .i, .int k a, .int k' b => if k = k' then some (a == b) else none
  | .b, .bool a, .bool b => some (a == b)
  | .s, .string a, .string b => some (a == b)
  | _, _, _ => none
def eqVals : List EK → List Value → List Value → Option Bool
  | [], [], [] => some true
  | k :: ks, x :: xs, y :: ys => do
    let a ← eqVal k x y
    let b ← eqVals ks xs ys
    some (a && b)
  | _, _, _ => none
def EqOK (P : Program) (t : TypeId) (ks : List EK) : Prop :=
  ∀ (xs ys : Array Value) (r : Bool), eqVals ks xs.toList ys.toList = some r → ∀ w (xo yo : Operand),
    (do eqGuard .eql t xo yo (.agg xs) (.agg ys); binOp .eql t (.agg xs) (.agg ys) : Sem Value).run P w = .ok (.bool r) w ∧
    (do eqGuard .neq t xo yo (.agg xs) (.agg ys); binOp .neq t (.agg xs) (.agg ys) : Sem Value).run P w = .ok (.bool !r) w
structure EnvOK (E : Env) : Prop where
  eq : ∀ t ks, E.eqT t = some ks → EqOK E.P t ks
  mixed : E.P.follows .mixedOrders = true

theorem val_ok {y : AV} {rd : List Nat} {k : List Blk → Option Eff} {bs : List Blk} {ef : Eff} (hp : Plan.val y = .prim rd k) (hk : k bs = some ef) : ef = .none y := by
  simp only [Plan.val, Plan.prim.injEq] at hp
  obtain ⟨_, rfl⟩ := hp
  simpa using hk.symm
theorem opt_ok {x : Option AV} {rd : List Nat} {k : List Blk → Option Eff} {bs : List Blk} {ef : Eff} (hp : Plan.opt x = .prim rd k) (hk : k bs = some ef) : ∃ y, x = some y ∧ ef = .none y := by
  simp only [Plan.opt, Plan.prim.injEq] at hp
  obtain ⟨_, rfl⟩ := hp
  cases x with
  | none => simp at hk
  | some y => exact ⟨y, rfl, by simpa using hk.symm⟩
theorem plainV_ok {x : Option Value} {y : AV} (h : plainV x = some y) : ∃ v, x = some v ∧ plain v = true ∧ y = .v v := by
  unfold plainV at h
  cases x with
  | none => cases h
  | some v =>
    simp only [Option.bind_some] at h
    split at h
    · exact ⟨v, rfl, by assumption, by simpa using h.symm⟩
    · cases h

theorem mapM_one {G : Nat → Option Blk} {n : Nat} {bs : List Blk} (h : [n].mapM G = some bs) : ∃ b, G n = some b ∧ bs = [b] := by
  simp only [List.mapM_cons, List.mapM_nil, Option.pure_def, Option.bind_eq_bind, Option.bind_some] at h
  cases hg : G n with
  | none => rw [hg] at h; cases h
  | some b => rw [hg] at h; exact ⟨b, rfl, by simpa using h.symm⟩
theorem mapM_two {G : Nat → Option Blk} {n m : Nat} {bs : List Blk} (h : [n, m].mapM G = some bs) : ∃ b c, G n = some b ∧ G m = some c ∧ bs = [b, c] := by
  simp only [List.mapM_cons, List.mapM_nil, Option.pure_def, Option.bind_eq_bind, Option.bind_some] at h
  cases hg : G n with
  | none => rw [hg] at h; cases h
  | some b =>
    rw [hg] at h
    cases hm : G m with
    | none => rw [hm] at h; cases h
    | some c => rw [hm] at h; exact ⟨b, c, rfl, rfl, by simpa using h.symm⟩
theorem mapM_nil {G : Nat → Option Blk} {bs : List Blk} (h : ([] : List Nat).mapM G = some bs) : bs = [] := by simpa using h.symm

theorem prim_inj {rd rd' : List Nat} {k k' : List Blk → Option Eff} (h : Plan.prim rd k = .prim rd' k') : rd = rd' ∧ k = k' := by simpa using h

theorem live_ok {G : Nat → Option Blk} {n e : Nat} {x : AV} {rd : List Nat} {k : List Blk → Option Eff} {bs : List Blk} {ef : Eff} (hp : live n e x = .prim rd k) (hbs : rd.mapM G = some bs) (hk : k bs = some ef) :
    ∃ b, G n = some b ∧ b.ep = e ∧ ef = .none x := by
  obtain ⟨rfl, rfl⟩ := prim_inj hp
  obtain ⟨b, hb, rfl⟩ := mapM_one hbs
  simp only at hk
  split at hk
  · exact ⟨b, hb, by assumption, by simpa using hk.symm⟩
  · cases hk

section
variable {E : Env} {C : Ctx} {o : Oper} {ρ : Operand → AV} {ev : Operand → Value} {rd : List Nat} {k : List Blk → Option Eff} {bs : List Blk} {ef : Eff}

theorem ok_move (g : Good C) (hρ : ∀ x, VR C (ρ x) (ev x)) {x : Operand} (ho : o.op = .move x ∨ o.op = .assign x) (hp : Plan.val (ρ x) = .prim rd k) (hk : k bs = some ef) : EffOK E.P C o ev ef := by
  obtain rfl := val_ok hp hk
  refine .same g (v := ev x) ?_ (hρ x)
  rcases ho with ho | ho <;> simp [execOp, ho]

theorem ok_pick (g : Good C) (hρ : ∀ x, VR C (ρ x) (ev x)) {c a b : Operand} (ho : o.op = .pick c a b) (hp : plan E o ρ = .prim rd k) (hk : k bs = some ef) : EffOK E.P C o ev ef := by
  simp only [plan, ho] at hp
  split at hp
  · rename_i t hc
    obtain rfl := val_ok hp hk
    have hv := (hc ▸ hρ c).v_inv.1
    cases t
    · refine .same g (v := ev b) ?_ (hρ b)
      simp [execOp, ho, hv, asBool]
    · refine .same g (v := ev a) ?_ (hρ a)
      simp [execOp, ho, hv, asBool]
  · cases hp

theorem ok_nilCheck (g : Good C) (hρ : ∀ x, VR C (ρ x) (ev x)) {x : Operand} (ho : o.op = .nilCheck x) (hp : plan E o ρ = .prim rd k) (hbs : rd.mapM C.get = some bs) (hk : k bs = some ef) : EffOK E.P C o ev ef := by
  simp only [plan, ho] at hp
  split at hp
  · rename_i cs hc
    obtain rfl := val_ok hp hk
    have h := hc ▸ hρ x
    have hf := h.fp_inv
    generalize hv : ev x = v at h hf
    cases hf with
    | fp b o' c =>
      refine .same g (v := ev x) ?_ (hv ▸ h)
      simp [execOp, ho, hv]
  · rename_i n e i j hc
    obtain ⟨b, hb, he, rfl⟩ := live_ok hp hbs hk
    have h := hc ▸ hρ x
    have hv := h.op_inv hb he
    refine .same g (v := ev x) ?_ h
    simp [execOp, ho, hv]
  · cases hp

theorem ok_unOp (g : Good C) (hρ : ∀ x, VR C (ρ x) (ev x)) {op : UnOp} {t : TypeId} {x : Operand} (ho : o.op = .unOp op t x) (hp : plan E o ρ = .prim rd k) (hk : k bs = some ef) : EffOK E.P C o ev ef := by
  simp only [plan, ho] at hp
  split at hp
  · rename_i a ha
    obtain ⟨y, hy, rfl⟩ := opt_ok hp hk
    obtain ⟨v, hd, hpl, rfl⟩ := plainV_ok hy
    have hv := (ha ▸ hρ x).v_inv.1
    refine .same g (v := v) ?_ (.fr (.v hpl))
    simp [execOp, ho, hv, det_run hd]
  · cases hp


theorem FR.sl_ne {w : World} {av : Nat → Prop} {es : List (List AV)} {v : Value} {sz : Nat} (h : FR w av (.sl sz es) v) : ∃ a n cap, v = .slice (some a) n cap := by
  cases h with
  | sl a b o cap f ha => exact ⟨_, _, _, rfl⟩

theorem run_eqGuard_slice (P : Program) (w : World) (op : BinOp) (t : TypeId) (xo yo : Operand) (a b : Value) (h1 : ∀ c, a ≠ .agg c) (h2 : a ≠ .nilIface) : (eqGuard op t xo yo a b).run P w = .ok () w := by
  unfold eqGuard
  cases op <;> cases a <;> cases b <;> simp_all

theorem run_equalIn_nil {P : Program} {w : World} {t : TypeId} {a b : Value} (d : Nat) (h : (∃ e p, P.underlying t = some (.pointer e) ∧ a = .pointer (some p) ∧ b = .pointer none) ∨ (∃ e p n c, P.underlying t = some (.slice e) ∧ a = .slice (some p) n c ∧ b = .slice none 0 0) ∨ (∃ x y z f u v, P.underlying t = some (.func x y z) ∧ a = .func f u v ∧ b = .nilFunc)) :
    (Op.equalIn (d + 1) t a b).run P w = .ok false w := by
  rcases h with ⟨e, p, hu, rfl, rfl⟩ | ⟨e, p, n, c, hu, rfl, rfl⟩ | ⟨x, y, z, f, u, v, hu, rfl, rfl⟩ <;>
    (simp only [Op.equalIn, Sem.run_bind, run_underlying hu, Result.andThen_ok]; rfl)
theorem run_nil_eql {P : Program} {w : World} {t : TypeId} {a b : Value} (h : (∃ e p, P.underlying t = some (.pointer e) ∧ a = .pointer (some p) ∧ b = .pointer none) ∨ (∃ e p n c, P.underlying t = some (.slice e) ∧ a = .slice (some p) n c ∧ b = .slice none 0 0) ∨ (∃ x y z f u v, P.underlying t = some (.func x y z) ∧ a = .func f u v ∧ b = .nilFunc)) (xo yo : Operand) :
    (do eqGuard .eql t xo yo a b; binOp .eql t a b : Sem Value).run P w = .ok (.bool false) w ∧ (do eqGuard .neq t xo yo a b; binOp .neq t a b : Sem Value).run P w = .ok (.bool true) w := by
  have h6 : (Op.equal t a b).run P w = .ok false w := run_equalIn_nil 9999 h
  have h3 : binOp .eql t a b = (do pure (.bool (← Op.equal t a b))) := by
    rcases h with ⟨e, p, hu, rfl, rfl⟩ | ⟨e, p, n, c, hu, rfl, rfl⟩ | ⟨x, y, z, f, u, v, hu, rfl, rfl⟩ <;> rfl
  have h4 : binOp .neq t a b = (do pure (.bool (!(← Op.equal t a b)))) := by
    rcases h with ⟨e, p, hu, rfl, rfl⟩ | ⟨e, p, n, c, hu, rfl, rfl⟩ | ⟨x, y, z, f, u, v, hu, rfl, rfl⟩ <;> rfl
  have h1 : (eqGuard .eql t xo yo a b).run P w = .ok () w := by
    rcases h with ⟨e, p, hu, rfl, rfl⟩ | ⟨e, p, n, c, hu, rfl, rfl⟩ | ⟨x, y, z, f, u, v, hu, rfl, rfl⟩ <;> rfl
  have h2 : (eqGuard .neq t xo yo a b).run P w = .ok () w := by
    rcases h with ⟨e, p, hu, rfl, rfl⟩ | ⟨e, p, n, c, hu, rfl, rfl⟩ | ⟨x, y, z, f, u, v, hu, rfl, rfl⟩ <;> rfl
  constructor
  · simp only [Sem.run_bind, h1, Result.andThen_ok, h3, h6, Sem.run_pure]
  · simp only [Sem.run_bind, h2, Result.andThen_ok, h4, h6, Sem.run_pure, Bool.not_false]
theorem exec_binOp {P : Program} {w : World} {o : Oper} {ev : Operand → Value} {op : BinOp} {t yt : TypeId} {x y : Operand} (ho : o.op = .binOp op t x y yt) :
    (execOp ev o).run P w = ((do eqGuard op t x y (ev x) (ev y); binOp op t (ev x) (ev y) : Sem Value).run P w).andThen fun a w' => .ok (.value a) w' := by
  simp only [execOp, ho, Sem.run_bind]
  rfl

theorem allV_of {C : Ctx} {xs : List AV} {vs : Array Value} (hl : vs.size = xs.length) (hr : ∀ i, i < xs.length → VR C (xs.getD i .dead) (vs.getD i undef)) (i : Nat) (a : Value) (h : xs[i]? = some (.v a)) : vs.toList[i]? = some a := by
  have hi : i < xs.length := (List.getElem?_eq_some_iff.1 h).1
  have := hr i hi
  rw [List.getD_eq_getElem?_getD, h] at this
  have hv := this.v_inv.1
  rw [Array.getElem?_toList, Array.getElem?_eq_getElem (by omega)]
  rw [Array.getD_eq_getD_getElem?, Array.getElem?_eq_getElem (by omega)] at hv
  simpa using hv

theorem eqCell_v {ek : EK} {x y : AV} {r : Bool} (h : eqCell ek x y = some r) : ∃ a b, x = .v a ∧ y = .v b ∧ eqVal ek a b = some r := by
  unfold eqCell at h
  split at h
  · exact ⟨_, _, rfl, rfl, h⟩
  · exact ⟨_, _, rfl, rfl, h⟩
  · exact ⟨_, _, rfl, rfl, h⟩
  · cases h

theorem eqCells_vals {C : Ctx} : ∀ {ks : List EK} {xs ys : List AV} {vs us : List Value} {r : Bool}, vs.length = xs.length → us.length = ys.length → (∀ (i : Nat) (a : Value), xs[i]? = some (AV.v a) → vs[i]? = some a) → (∀ (i : Nat) (a : Value), ys[i]? = some (AV.v a) → us[i]? = some a) →
    eqCells ks xs ys = some r → eqVals ks vs us = some r
  | [], [], [], vs, us, r, h1, h2, _, _, h => by
    have : vs = [] := List.eq_nil_of_length_eq_zero h1
    have : us = [] := List.eq_nil_of_length_eq_zero h2
    subst vs; subst us
    simpa [eqCells, eqVals] using h
  | [], [], y :: ys, _, _, _, _, _, _, _, h => by simp [eqCells] at h
  | [], x :: xs, _, _, _, _, _, _, _, _, h => by simp [eqCells] at h
  | _ :: _, [], _, _, _, _, _, _, _, _, h => by simp [eqCells] at h
  | _ :: _, _ :: _, [], _, _, _, _, _, _, _, h => by simp [eqCells] at h
  | k :: ks, x :: xs, y :: ys, vs, us, r, h1, h2, h3, h4, h => by
    simp only [eqCells, Option.bind_eq_bind] at h
    cases ha : eqCell k x y with
    | none => rw [ha] at h; cases h
    | some p =>
      rw [ha] at h
      simp only [Option.bind_some] at h
      cases hb : eqCells ks xs ys with
      | none => rw [hb] at h; cases h
      | some q =>
        rw [hb] at h
        simp only [Option.bind_some, Option.some.injEq] at h
        obtain ⟨a, b, rfl, rfl, he⟩ := eqCell_v ha
        cases vs with
        | nil => simp at h1
        | cons v vs =>
          cases us with
          | nil => simp at h2
          | cons u us =>
            have e1 : v = a := by simpa using h3 0 a rfl
            have e2 : u = b := by simpa using h4 0 b rfl
            subst e1; subst e2
            have ih := eqCells_vals (C := C) (vs := vs) (us := us) (by simpa using h1) (by simpa using h2) (fun i a hi => by simpa using h3 (i + 1) a (by simpa using hi)) (fun i a hi => by simpa using h4 (i + 1) a (by simpa using hi)) hb
            simp [eqVals, he, ih, h]

theorem ok_eq (hE : EnvOK E) (g : Good C) (hρ : ∀ x, VR C (ρ x) (ev x)) {op : BinOp} {t yt : TypeId} {x y : Operand} {neg : Bool} (ho : o.op = .binOp op t x y yt) (hop : op = if neg then .neq else .eql)
    (hp : eqPlan E t neg (ρ x) (ρ y) = .prim rd k) (hbs : rd.mapM C.get = some bs) (hk : k bs = some ef) : EffOK E.P C o ev ef := by
  have hrun : ∀ b : Bool, ((do eqGuard .eql t x y (ev x) (ev y); binOp .eql t (ev x) (ev y) : Sem Value).run E.P C.w = .ok (.bool b) C.w ∧ (do eqGuard .neq t x y (ev x) (ev y); binOp .neq t (ev x) (ev y) : Sem Value).run E.P C.w = .ok (.bool !b) C.w) →
      EffOK E.P C o ev (.none (.v (.bool (b != neg)))) := by
    intro b hb
    refine .same g (v := .bool (b != neg)) ?_ (.fr (.v rfl))
    subst hop
    rw [exec_binOp ho]
    cases neg
    · exact (congrArg (Result.andThen · _) hb.1).trans (by simp)
    · exact (congrArg (Result.andThen · _) hb.2).trans (by simp)
  unfold eqPlan at hp
  split at hp
  · rename_i xs ys hx hy
    split at hp
    · rename_i ks ht
      obtain ⟨z, hz, rfl⟩ := opt_ok hp hk
      cases hr : eqCells ks xs ys with
      | none => rw [hr] at hz; cases hz
      | some r =>
        rw [hr] at hz
        simp only [Option.map_some, Option.some.injEq] at hz
        subst hz
        obtain ⟨vs, hv, hl, _, hvr⟩ := (hx ▸ hρ x).agg_inv
        obtain ⟨us, hu, hl', _, hur⟩ := (hy ▸ hρ y).agg_inv
        have he : eqVals ks vs.toList us.toList = some r := eqCells_vals (C := C) (by simpa using hl) (by simpa using hl') (allV_of hl hvr) (allV_of hl' hur) hr
        have := hE.eq t ks ht vs us r he C.w x y
        rw [← hv, ← hu] at this
        exact hrun r this
    · cases hp
  · have key : ((∃ e p, E.P.underlying t = some (.pointer e) ∧ ev x = .pointer (some p) ∧ ev y = .pointer none) ∨ (∃ e p n c, E.P.underlying t = some (.slice e) ∧ ev x = .slice (some p) n c ∧ ev y = .slice none 0 0) ∨ (∃ p q z f u v, E.P.underlying t = some (.func p q z) ∧ ev x = .func f u v ∧ ev y = .nilFunc)) ∧ ef = .none (.v (.bool neg)) := by
      split at hp
      · rename_i e cs hu hx hy
        refine ⟨.inl ⟨e, ?_⟩, val_ok hp hk⟩
        have h := (hx ▸ hρ x).fp_inv
        generalize ev x = v at h
        cases h with
        | fp b o' c => exact ⟨_, hu, rfl, (hy ▸ hρ y).v_inv.1⟩
      · rename_i e _ es hu hx hy
        refine ⟨.inr (.inl ⟨e, ?_⟩), val_ok hp hk⟩
        obtain ⟨a, n, cap, hv⟩ := (hx ▸ hρ x).sl_inv.sl_ne
        exact ⟨a, n, cap, hu, hv, (hy ▸ hρ y).v_inv.1⟩
      · rename_i e hu hx hy
        refine ⟨.inr (.inl ⟨e, ?_⟩), val_ok hp hk⟩
        obtain ⟨a, hv⟩ := (hx ▸ hρ x).e0_inv
        exact ⟨a, 0, 0, hu, hv, (hy ▸ hρ y).v_inv.1⟩
      · rename_i p q z f cs hu hx hy
        refine ⟨.inr (.inr ⟨p, q, z, ?_⟩), val_ok hp hk⟩
        obtain ⟨vs, hv, _⟩ := (hx ▸ hρ x).fn_inv
        exact ⟨_, _, _, hu, hv, (hy ▸ hρ y).v_inv.1⟩
      · rename_i e n ep off len hu hx hy
        obtain ⟨b, hb, he, rfl⟩ := live_ok hp hbs hk
        refine ⟨.inr (.inl ⟨e, ?_⟩), rfl⟩
        obtain ⟨a, cap, hv, _, hl, ha⟩ := (hx ▸ hρ x).os_inv hb he
        exact ⟨_, _, _, hu, hv, (hy ▸ hρ y).v_inv.1⟩
      · rename_i e n ep i j hu hx hy
        obtain ⟨b, hb, he, rfl⟩ := live_ok hp hbs hk
        refine ⟨.inl ⟨e, ?_⟩, rfl⟩
        exact ⟨_, hu, (hx ▸ hρ x).op_inv hb he, (hy ▸ hρ y).v_inv.1⟩
      · cases hp
    obtain ⟨h1, rfl⟩ := key
    have := hrun false (by simpa using run_nil_eql (w := C.w) h1 x y)
    cases neg <;> exact this

theorem ok_binOp (hE : EnvOK E) (g : Good C) (hρ : ∀ x, VR C (ρ x) (ev x)) {op : BinOp} {t yt : TypeId} {x y : Operand} (ho : o.op = .binOp op t x y yt) (hp : plan E o ρ = .prim rd k) (hbs : rd.mapM C.get = some bs) (hk : k bs = some ef) : EffOK E.P C o ev ef := by
  simp only [plan, ho, binOpA] at hp
  split at hp
  · rename_i a b ha hb
    obtain ⟨z, hz, rfl⟩ := opt_ok hp hk
    obtain ⟨v, hd, hpl, rfl⟩ := plainV_ok hz
    have h1 := (ha ▸ hρ x).v_inv.1
    have h2 := (hb ▸ hρ y).v_inv.1
    refine .same g (v := v) ?_ (.fr (.v hpl))
    rw [exec_binOp ho, h1, h2]
    exact (congrArg (Result.andThen · _) (det_run hd C.w)).trans rfl
  · split at hp
    · exact ok_eq hE g hρ (neg := false) ho rfl hp hbs hk
    · exact ok_eq hE g hρ (neg := true) ho rfl hp hbs hk
    · cases hp

theorem ok_makeFunc (g : Good C) (hρ : ∀ x, VR C (ρ x) (ev x)) {fn : Fn} {first caps : Array Operand} (ho : o.op = .makeFunc fn first caps) (hp : plan E o ρ = .prim rd k) (hk : k bs = some ef) : EffOK E.P C o ev ef := by
  simp only [plan, ho] at hp
  split at hp
  · rename_i f hfi
    split at hp
    · obtain rfl := val_ok hp hk
      have hfi' : first = #[] := by simpa using hfi
      subst hfi'
      refine .same g (v := .func (.func f) #[] (caps.map ev)) ?_ (.fn f _ (by simp) fun i hi => ?_)
      · simp [execOp, ho, Instr.makeFunc]
      · have hi' : i < caps.size := by simpa using hi
        have := hρ caps[i]
        simpa [List.getD_eq_getElem?_getD, Array.getD_eq_getD_getElem?, hi'] using this
    · cases hp
  · cases hp

theorem ok_extract (g : Good C) (hρ : ∀ x, VR C (ρ x) (ev x)) {t : Operand} {i : Nat} (ho : o.op = .extract t i) (hp : plan E o ρ = .prim rd k) (hk : k bs = some ef) : EffOK E.P C o ev ef := by
  simp only [plan, ho] at hp
  split at hp
  · rename_i vs hv
    obtain ⟨y, hy, rfl⟩ := opt_ok hp hk
    obtain ⟨us, hu, hl, hr⟩ := (hv ▸ hρ t).tup_inv
    have hi : i < vs.length := (List.getElem?_eq_some_iff.1 hy).1
    have := hr i hi
    rw [List.getD_eq_getElem?_getD, hy] at this
    refine .same g (v := us.getD i undef) ?_ this
    simp [execOp, ho, hu, Instr.extract, Array.getElem?_eq_getElem (show i < us.size by omega), Array.getD_eq_getD_getElem?]
  · cases hp

end
end Go.Am
