/- Parts of the proof: AmOps1 AmOps2 AmOps3 AmOps4 AmOps5 AmOps6 AmOps7 AmOps8 AmOps9 AmOps10 AmOps11. -/
import Derived.Test.YtmcimfmibpfnhaaGreatAmBase
import Derived.IntWalk
set_option linter.all false
set_option linter.deprecated false

namespace Go.Am

/-- '==' on a struct's cells, as the environment says it. -/
def eqVal : EK → Value → Value → Option Bool
  | .i, .int k a, .int k' b => if k = k' then some (a == b) else none
  | .b, .bool a, .bool b => some (a == b)
  | .s, .string a, .string b => some (a == b)
  | _, _, _ => none
def eqVals : List EK → List Value → List Value → Option Bool
  | [], [], [] => some true
  | k :: ks, x :: xs, y :: ys => do
    let a ← eqVal k x y
    let b ← eqVals ks xs ys
    some (a && b)
  | _, _, _ => none
def EqOK (P : Program) (t : TypeId) (ks : List EK) : Prop :=
  ∀ (xs ys : Array Value) (r : Bool), eqVals ks xs.toList ys.toList = some r → ∀ w (xo yo : Operand),
    (do eqGuard .eql t xo yo (.agg xs) (.agg ys); binOp .eql t (.agg xs) (.agg ys) : Sem Value).run P w = .ok (.bool r) w ∧
    (do eqGuard .neq t xo yo (.agg xs) (.agg ys); binOp .neq t (.agg xs) (.agg ys) : Sem Value).run P w = .ok (.bool !r) w
structure EnvOK (E : Env) : Prop where
  eq : ∀ t ks, E.eqT t = some ks → EqOK E.P t ks
  mixed : E.P.follows .mixedOrders = true

theorem val_ok {y : AV} {rd : List Nat} {k : List Blk → Option Eff} {bs : List Blk} {ef : Eff} (hp : Plan.val y = .prim rd k) (hk : k bs = some ef) : ef = .none y := by
  simp only [Plan.val, Plan.prim.injEq] at hp
  obtain ⟨_, rfl⟩ := hp
  simpa using hk.symm
theorem opt_ok {x : Option AV} {rd : List Nat} {k : List Blk → Option Eff} {bs : List Blk} {ef : Eff} (hp : Plan.opt x = .prim rd k) (hk : k bs = some ef) : ∃ y, x = some y ∧ ef = .none y := by
  simp only [Plan.opt, Plan.prim.injEq] at hp
  obtain ⟨_, rfl⟩ := hp
  cases x with
  | none => simp at hk
  | some y => exact ⟨y, rfl, by simpa using hk.symm⟩
theorem plainV_ok {x : Option Value} {y : AV} (h : plainV x = some y) : ∃ v, x = some v ∧ plain v = true ∧ y = .v v := by
  unfold plainV at h
  cases x with
  | none => cases h
  | some v =>
    simp only [Option.bind_some] at h
    split at h
    · exact ⟨v, rfl, by assumption, by simpa using h.symm⟩
    · cases h

theorem mapM_one {G : Nat → Option Blk} {n : Nat} {bs : List Blk} (h : [n].mapM G = some bs) : ∃ b, G n = some b ∧ bs = [b] := by
  simp only [List.mapM_cons, List.mapM_nil, Option.pure_def, Option.bind_eq_bind, Option.bind_some] at h
  cases hg : G n with
  | none => rw [hg] at h; cases h
  | some b => rw [hg] at h; exact ⟨b, rfl, by simpa using h.symm⟩
theorem mapM_two {G : Nat → Option Blk} {n m : Nat} {bs : List Blk} (h : [n, m].mapM G = some bs) : ∃ b c, G n = some b ∧ G m = some c ∧ bs = [b, c] := by
  simp only [List.mapM_cons, List.mapM_nil, Option.pure_def, Option.bind_eq_bind, Option.bind_some] at h
  cases hg : G n with
  | none => rw [hg] at h; cases h
  | some b =>
    rw [hg] at h
    cases hm : G m with
    | none => rw [hm] at h; cases h
    | some c => rw [hm] at h; exact ⟨b, c, rfl, rfl, by simpa using h.symm⟩
theorem mapM_nil {G : Nat → Option Blk} {bs : List Blk} (h : ([] : List Nat).mapM G = some bs) : bs = [] := by simpa using h.symm

theorem prim_inj {rd rd' : List Nat} {k k' : List Blk → Option Eff} (h : Plan.prim rd k = .prim rd' k') : rd = rd' ∧ k = k' := by simpa using h

theorem live_ok {G : Nat → Option Blk} {n e : Nat} {x : AV} {rd : List Nat} {k : List Blk → Option Eff} {bs : List Blk} {ef : Eff} (hp : live n e x = .prim rd k) (hbs : rd.mapM G = some bs) (hk : k bs = some ef) :
    ∃ b, G n = some b ∧ b.ep = e ∧ ef = .none x := by
  obtain ⟨rfl, rfl⟩ := prim_inj hp
  obtain ⟨b, hb, rfl⟩ := mapM_one hbs
  simp only at hk
  split at hk
  · exact ⟨b, hb, by assumption, by simpa using hk.symm⟩
  · cases hk

section
variable {E : Env} {C : Ctx} {o : Oper} {ρ : Operand → AV} {ev : Operand → Value} {rd : List Nat} {k : List Blk → Option Eff} {bs : List Blk} {ef : Eff}

theorem ok_move (g : Good C) (hρ : ∀ x, VR C (ρ x) (ev x)) {x : Operand} (ho : o.op = .move x ∨ o.op = .assign x) (hp : Plan.val (ρ x) = .prim rd k) (hk : k bs = some ef) : EffOK E.P C o ev ef := by
  obtain rfl := val_ok hp hk
  refine .same g (v := ev x) ?_ (hρ x)
  rcases ho with ho | ho <;> simp [execOp, ho]

theorem ok_pick (g : Good C) (hρ : ∀ x, VR C (ρ x) (ev x)) {c a b : Operand} (ho : o.op = .pick c a b) (hp : plan E o ρ = .prim rd k) (hk : k bs = some ef) : EffOK E.P C o ev ef := by
  simp only [plan, ho] at hp
  split at hp
  · rename_i t hc
    obtain rfl := val_ok hp hk
    have hv := (hc ▸ hρ c).v_inv.1
    cases t
    · refine .same g (v := ev b) ?_ (hρ b)
      simp [execOp, ho, hv, asBool]
    · refine .same g (v := ev a) ?_ (hρ a)
      simp [execOp, ho, hv, asBool]
  · cases hp

theorem ok_nilCheck (g : Good C) (hρ : ∀ x, VR C (ρ x) (ev x)) {x : Operand} (ho : o.op = .nilCheck x) (hp : plan E o ρ = .prim rd k) (hbs : rd.mapM C.get = some bs) (hk : k bs = some ef) : EffOK E.P C o ev ef := by
  simp only [plan, ho] at hp
  split at hp
  · rename_i cs hc
    obtain rfl := val_ok hp hk
    have h := hc ▸ hρ x
    have hf := h.fp_inv
    generalize hv : ev x = v at h hf
    cases hf with
    | fp b o' c =>
      refine .same g (v := ev x) ?_ (hv ▸ h)
      simp [execOp, ho, hv]
  · rename_i n e i j hc
    obtain ⟨b, hb, he, rfl⟩ := live_ok hp hbs hk
    have h := hc ▸ hρ x
    have hv := h.op_inv hb he
    refine .same g (v := ev x) ?_ h
    simp [execOp, ho, hv]
  · cases hp

theorem ok_unOp (g : Good C) (hρ : ∀ x, VR C (ρ x) (ev x)) {op : UnOp} {t : TypeId} {x : Operand} (ho : o.op = .unOp op t x) (hp : plan E o ρ = .prim rd k) (hk : k bs = some ef) : EffOK E.P C o ev ef := by
  simp only [plan, ho] at hp
  split at hp
  · rename_i a ha
    obtain ⟨y, hy, rfl⟩ := opt_ok hp hk
    obtain ⟨v, hd, hpl, rfl⟩ := plainV_ok hy
    have hv := (ha ▸ hρ x).v_inv.1
    refine .same g (v := v) ?_ (.fr (.v hpl))
    simp [execOp, ho, hv, det_run hd]
  · cases hp


theorem FR.sl_ne {w : World} {av : Nat → Prop} {es : List (List AV)} {v : Value} {sz : Nat} (h : FR w av (.sl sz es) v) : ∃ a n cap, v = .slice (some a) n cap := by
  cases h with
  | sl a b o cap f ha => exact ⟨_, _, _, rfl⟩

theorem run_equalIn_nil {P : Program} {w : World} {t : TypeId} {a b : Value} (d : Nat) (h : (∃ e p, P.underlying t = some (.pointer e) ∧ a = .pointer (some p) ∧ b = .pointer none) ∨ (∃ e p n c, P.underlying t = some (.slice e) ∧ a = .slice (some p) n c ∧ b = .slice none 0 0) ∨ (∃ x y z f u v, P.underlying t = some (.func x y z) ∧ a = .func f u v ∧ b = .nilFunc)) :
    (Op.equalIn (d + 1) t a b).run P w = .ok false w := by
  rcases h with ⟨e, p, hu, rfl, rfl⟩ | ⟨e, p, n, c, hu, rfl, rfl⟩ | ⟨x, y, z, f, u, v, hu, rfl, rfl⟩ <;>
    (simp only [Op.equalIn, Sem.run_bind, run_underlying hu, Result.andThen_ok]; rfl)
theorem run_nil_eql {P : Program} {w : World} {t : TypeId} {a b : Value} (h : (∃ e p, P.underlying t = some (.pointer e) ∧ a = .pointer (some p) ∧ b = .pointer none) ∨ (∃ e p n c, P.underlying t = some (.slice e) ∧ a = .slice (some p) n c ∧ b = .slice none 0 0) ∨ (∃ x y z f u v, P.underlying t = some (.func x y z) ∧ a = .func f u v ∧ b = .nilFunc)) (xo yo : Operand) :
    (do eqGuard .eql t xo yo a b; binOp .eql t a b : Sem Value).run P w = .ok (.bool false) w ∧ (do eqGuard .neq t xo yo a b; binOp .neq t a b : Sem Value).run P w = .ok (.bool true) w := by
  have h6 : (Op.equal t a b).run P w = .ok false w := run_equalIn_nil 9999 h
  have h3 : binOp .eql t a b = (do pure (.bool (← Op.equal t a b))) := by
    rcases h with ⟨e, p, hu, rfl, rfl⟩ | ⟨e, p, n, c, hu, rfl, rfl⟩ | ⟨x, y, z, f, u, v, hu, rfl, rfl⟩ <;> rfl
  have h4 : binOp .neq t a b = (do pure (.bool (!(← Op.equal t a b)))) := by
    rcases h with ⟨e, p, hu, rfl, rfl⟩ | ⟨e, p, n, c, hu, rfl, rfl⟩ | ⟨x, y, z, f, u, v, hu, rfl, rfl⟩ <;> rfl
  have h1 : (eqGuard .eql t xo yo a b).run P w = .ok () w := by
    rcases h with ⟨e, p, hu, rfl, rfl⟩ | ⟨e, p, n, c, hu, rfl, rfl⟩ | ⟨x, y, z, f, u, v, hu, rfl, rfl⟩ <;> rfl
  have h2 : (eqGuard .neq t xo yo a b).run P w = .ok () w := by
    rcases h with ⟨e, p, hu, rfl, rfl⟩ | ⟨e, p, n, c, hu, rfl, rfl⟩ | ⟨x, y, z, f, u, v, hu, rfl, rfl⟩ <;> rfl
  constructor
  · simp only [Sem.run_bind, h1, Result.andThen_ok, h3, h6, Sem.run_pure]
  · simp only [Sem.run_bind, h2, Result.andThen_ok, h4, h6, Sem.run_pure, Bool.not_false]
theorem exec_binOp {P : Program} {w : World} {o : Oper} {ev : Operand → Value} {op : BinOp} {t yt : TypeId} {x y : Operand} (ho : o.op = .binOp op t x y yt) :
    (execOp ev o).run P w = ((do eqGuard op t x y (ev x) (ev y); binOp op t (ev x) (ev y) : Sem Value).run P w).andThen fun a w' => .ok (.value a) w' := by
  simp only [execOp, ho, Sem.run_bind]
  rfl

theorem allV_of {C : Ctx} {xs : List AV} {vs : Array Value} (hl : vs.size = xs.length) (hr : ∀ i, i < xs.length → VR C (xs.getD i .dead) (vs.getD i undef)) (i : Nat) (a : Value) (h : xs[i]? = some (.v a)) : vs.toList[i]? = some a := by
  have hi : i < xs.length := (List.getElem?_eq_some_iff.1 h).1
  have := hr i hi
  rw [List.getD_eq_getElem?_getD, h] at this
  have hv := this.v_inv.1
  rw [Array.getElem?_toList, Array.getElem?_eq_getElem (by omega)]
  rw [Array.getD_eq_getD_getElem?, Array.getElem?_eq_getElem (by omega)] at hv
  simpa using hv

theorem eqCell_v {ek : EK} {x y : AV} {r : Bool} (h : eqCell ek x y = some r) : ∃ a b, x = .v a ∧ y = .v b ∧ eqVal ek a b = some r := by
  unfold eqCell at h
  split at h
  · exact ⟨_, _, rfl, rfl, h⟩
  · exact ⟨_, _, rfl, rfl, h⟩
  · exact ⟨_, _, rfl, rfl, h⟩
  · cases h

theorem eqCells_vals {C : Ctx} : ∀ {ks : List EK} {xs ys : List AV} {vs us : List Value} {r : Bool}, vs.length = xs.length → us.length = ys.length → (∀ (i : Nat) (a : Value), xs[i]? = some (AV.v a) → vs[i]? = some a) → (∀ (i : Nat) (a : Value), ys[i]? = some (AV.v a) → us[i]? = some a) →
    eqCells ks xs ys = some r → eqVals ks vs us = some r
  | [], [], [], vs, us, r, h1, h2, _, _, h => by
    have : vs = [] := List.eq_nil_of_length_eq_zero h1
    have : us = [] := List.eq_nil_of_length_eq_zero h2
    subst vs; subst us
    simpa [eqCells, eqVals] using h
  | [], [], y :: ys, _, _, _, _, _, _, _, h => by simp [eqCells] at h
  | [], x :: xs, _, _, _, _, _, _, _, _, h => by simp [eqCells] at h
  | _ :: _, [], _, _, _, _, _, _, _, _, h => by simp [eqCells] at h
  | _ :: _, _ :: _, [], _, _, _, _, _, _, _, h => by simp [eqCells] at h
  | k :: ks, x :: xs, y :: ys, vs, us, r, h1, h2, h3, h4, h => by
    simp only [eqCells, Option.bind_eq_bind] at h
    cases ha : eqCell k x y with
    | none => rw [ha] at h; cases h
    | some p =>
      rw [ha] at h
      simp only [Option.bind_some] at h
      cases hb : eqCells ks xs ys with
      | none => rw [hb] at h; cases h
      | some q =>
        rw [hb] at h
        simp only [Option.bind_some, Option.some.injEq] at h
        obtain ⟨a, b, rfl, rfl, he⟩ := eqCell_v ha
        cases vs with
        | nil => simp at h1
        | cons v vs =>
          cases us with
          | nil => simp at h2
          | cons u us =>
            have e1 : v = a := by simpa using h3 0 a rfl
            have e2 : u = b := by simpa using h4 0 b rfl
            subst e1; subst e2
            have ih := eqCells_vals (C := C) (vs := vs) (us := us) (by simpa using h1) (by simpa using h2) (fun i a hi => by simpa using h3 (i + 1) a (by simpa using hi)) (fun i a hi => by simpa using h4 (i + 1) a (by simpa using hi)) hb
            simp [eqVals, he, ih, h]

theorem ok_eq (hE : EnvOK E) (g : Good C) (hρ : ∀ x, VR C (ρ x) (ev x)) {op : BinOp} {t yt : TypeId} {x y : Operand} {neg : Bool} (ho : o.op = .binOp op t x y yt) (hop : op = if neg then .neq else .eql)
    (hp : eqPlan E t neg (ρ x) (ρ y) = .prim rd k) (hbs : rd.mapM C.get = some bs) (hk : k bs = some ef) : EffOK E.P C o ev ef := by
  have hrun : ∀ b : Bool, ((do eqGuard .eql t x y (ev x) (ev y); binOp .eql t (ev x) (ev y) : Sem Value).run E.P C.w = .ok (.bool b) C.w ∧ (do eqGuard .neq t x y (ev x) (ev y); binOp .neq t (ev x) (ev y) : Sem Value).run E.P C.w = .ok (.bool !b) C.w) →
      EffOK E.P C o ev (.none (.v (.bool (b != neg)))) := by
    intro b hb
    refine .same g (v := .bool (b != neg)) ?_ (.fr (.v rfl))
    subst hop
    rw [exec_binOp ho]
    cases neg
    · exact (congrArg (Result.andThen · _) hb.1).trans (by simp)
    · exact (congrArg (Result.andThen · _) hb.2).trans (by simp)
  unfold eqPlan at hp
  split at hp
  · rename_i xs ys hx hy
    split at hp
    · rename_i ks ht
      obtain ⟨z, hz, rfl⟩ := opt_ok hp hk
      cases hr : eqCells ks xs ys with
      | none => rw [hr] at hz; cases hz
      | some r =>
        rw [hr] at hz
        simp only [Option.map_some, Option.some.injEq] at hz
        subst hz
        obtain ⟨vs, hv, hl, _, hvr⟩ := (hx ▸ hρ x).agg_inv
        obtain ⟨us, hu, hl', _, hur⟩ := (hy ▸ hρ y).agg_inv
        have he : eqVals ks vs.toList us.toList = some r := eqCells_vals (C := C) (by simpa using hl) (by simpa using hl') (allV_of hl hvr) (allV_of hl' hur) hr
        have := hE.eq t ks ht vs us r he C.w x y
        rw [← hv, ← hu] at this
        exact hrun r this
    · cases hp
  · have key : ((∃ e p, E.P.underlying t = some (.pointer e) ∧ ev x = .pointer (some p) ∧ ev y = .pointer none) ∨ (∃ e p n c, E.P.underlying t = some (.slice e) ∧ ev x = .slice (some p) n c ∧ ev y = .slice none 0 0) ∨ (∃ p q z f u v, E.P.underlying t = some (.func p q z) ∧ ev x = .func f u v ∧ ev y = .nilFunc)) ∧ ef = .none (.v (.bool neg)) := by
      split at hp
      · rename_i e cs hu hx hy
        refine ⟨.inl ⟨e, ?_⟩, val_ok hp hk⟩
        have h := (hx ▸ hρ x).fp_inv
        generalize ev x = v at h
        cases h with
        | fp b o' c => exact ⟨_, hu, rfl, (hy ▸ hρ y).v_inv.1⟩
      · rename_i e _ es hu hx hy
        refine ⟨.inr (.inl ⟨e, ?_⟩), val_ok hp hk⟩
        obtain ⟨a, n, cap, hv⟩ := (hx ▸ hρ x).sl_inv.sl_ne
        exact ⟨a, n, cap, hu, hv, (hy ▸ hρ y).v_inv.1⟩
      · rename_i e hu hx hy
        refine ⟨.inr (.inl ⟨e, ?_⟩), val_ok hp hk⟩
        obtain ⟨a, hv⟩ := (hx ▸ hρ x).e0_inv
        exact ⟨a, 0, 0, hu, hv, (hy ▸ hρ y).v_inv.1⟩
      · rename_i p q z f cs hu hx hy
        refine ⟨.inr (.inr ⟨p, q, z, ?_⟩), val_ok hp hk⟩
        obtain ⟨vs, hv, _⟩ := (hx ▸ hρ x).fn_inv
        exact ⟨_, _, _, hu, hv, (hy ▸ hρ y).v_inv.1⟩
      · rename_i e n ep off len hu hx hy
        obtain ⟨b, hb, he, rfl⟩ := live_ok hp hbs hk
        refine ⟨.inr (.inl ⟨e, ?_⟩), rfl⟩
        obtain ⟨a, cap, hv, _, hl, ha⟩ := (hx ▸ hρ x).os_inv hb he
        exact ⟨_, _, _, hu, hv, (hy ▸ hρ y).v_inv.1⟩
      · rename_i e n ep i j hu hx hy
        obtain ⟨b, hb, he, rfl⟩ := live_ok hp hbs hk
        refine ⟨.inl ⟨e, ?_⟩, rfl⟩
        exact ⟨_, hu, (hx ▸ hρ x).op_inv hb he, (hy ▸ hρ y).v_inv.1⟩
      · cases hp
    obtain ⟨h1, rfl⟩ := key
    have := hrun false (by simpa using run_nil_eql (w := C.w) h1 x y)
    cases neg <;> exact this

theorem ok_binOp (hE : EnvOK E) (g : Good C) (hρ : ∀ x, VR C (ρ x) (ev x)) {op : BinOp} {t yt : TypeId} {x y : Operand} (ho : o.op = .binOp op t x y yt) (hp : plan E o ρ = .prim rd k) (hbs : rd.mapM C.get = some bs) (hk : k bs = some ef) : EffOK E.P C o ev ef := by
  simp only [plan, ho, binOpA] at hp
  split at hp
  · rename_i a b ha hb
    obtain ⟨z, hz, rfl⟩ := opt_ok hp hk
    obtain ⟨v, hd, hpl, rfl⟩ := plainV_ok hz
    have h1 := (ha ▸ hρ x).v_inv.1
    have h2 := (hb ▸ hρ y).v_inv.1
    refine .same g (v := v) ?_ (.fr (.v hpl))
    rw [exec_binOp ho, h1, h2]
    exact (congrArg (Result.andThen · _) (det_run hd C.w)).trans rfl
  · split at hp
    · exact ok_eq hE g hρ (neg := false) ho rfl hp hbs hk
    · exact ok_eq hE g hρ (neg := true) ho rfl hp hbs hk
    · cases hp

theorem ok_makeFunc (g : Good C) (hρ : ∀ x, VR C (ρ x) (ev x)) {fn : Fn} {first caps : Array Operand} (ho : o.op = .makeFunc fn first caps) (hp : plan E o ρ = .prim rd k) (hk : k bs = some ef) : EffOK E.P C o ev ef := by
  simp only [plan, ho] at hp
  split at hp
  · rename_i f hfi
    split at hp
    · obtain rfl := val_ok hp hk
      have hfi' : first = #[] := by simpa using hfi
      subst hfi'
      refine .same g (v := .func (.func f) #[] (caps.map ev)) ?_ (.fn f _ (by simp) fun i hi => ?_)
      · simp [execOp, ho, Instr.makeFunc]
      · have hi' : i < caps.size := by simpa using hi
        have := hρ caps[i]
        simpa [List.getD_eq_getElem?_getD, Array.getD_eq_getD_getElem?, hi'] using this
    · cases hp
  · cases hp

theorem ok_extract (g : Good C) (hρ : ∀ x, VR C (ρ x) (ev x)) {t : Operand} {i : Nat} (ho : o.op = .extract t i) (hp : plan E o ρ = .prim rd k) (hk : k bs = some ef) : EffOK E.P C o ev ef := by
  simp only [plan, ho] at hp
  split at hp
  · rename_i vs hv
    obtain ⟨y, hy, rfl⟩ := opt_ok hp hk
    obtain ⟨us, hu, hl, hr⟩ := (hv ▸ hρ t).tup_inv
    have hi : i < vs.length := (List.getElem?_eq_some_iff.1 hy).1
    have := hr i hi
    rw [List.getD_eq_getElem?_getD, hy] at this
    refine .same g (v := us.getD i undef) ?_ this
    simp [execOp, ho, hu, Instr.extract, Array.getElem?_eq_getElem (show i < us.size by omega), Array.getD_eq_getD_getElem?]
  · cases hp

end
end Go.Am

namespace Go.Am

theorem ER_one {C : Ctx} {cs : List AV} {vs : Array Value} (h : CR C cs vs) : ER C [cs] cs.length 0 vs := by
  refine ⟨fun i hi => ?_, fun i j hi hj => ?_⟩
  · have : i = 0 := by simpa using hi
    subst this; rfl
  · have : i = 0 := by simpa using hi
    subst this
    obtain ⟨a, b⟩ := h.2 j hj
    have hj' : j < vs.size := by rw [h.1]; exact hj
    refine ⟨vs.getD j undef, ?_, a, b⟩
    simp [Array.getD_eq_getD_getElem?, hj']

theorem CR_plain {C : Ctx} (vs : Array Value) (h : vs.toList.all plain = true) : CR C (vs.toList.map .v) vs := by
  refine ⟨by simp, fun i hi => ?_⟩
  have hi' : i < vs.size := by simpa using hi
  have hp : plain vs[i] = true := by
    have := List.all_eq_true.1 h (vs[i]) (by simp)
    exact this
  have e : vs.getD i undef = vs[i] := by simp [Array.getD_eq_getD_getElem?, hi']
  rw [e]
  refine ⟨plain_oneCell hp, ?_⟩
  have e2 : (vs.toList.map AV.v).getD i .dead = .v vs[i] := by simp [List.getD_eq_getElem?_getD, hi']
  rw [e2]
  exact .fr (.v hp)

theorem zeroCells_ok {P : Program} {t : TypeId} {zs : List AV} (h : zeroCells P t = some zs) : ∃ i z, P.info? t = some i ∧ i.zero = some z ∧ z.cells.toList.all plain = true ∧ zs = z.cells.toList.map .v := by
  unfold zeroCells at h
  cases hi : P.info? t with
  | none => rw [hi] at h; cases h
  | some i =>
    rw [hi] at h
    simp only [Option.bind_some] at h
    cases hz : i.zero with
    | none => rw [hz] at h; cases h
    | some z =>
      rw [hz] at h
      simp only [Option.bind_some] at h
      split at h
      · exact ⟨i, z, rfl, hz, by assumption, by simpa using h.symm⟩
      · cases h

theorem infoSize_ok {P : Program} {t : TypeId} {s : Nat} (h : infoSize P t = some s) : ∃ i, P.info? t = some i ∧ i.size = s := by
  unfold infoSize at h
  cases hi : P.info? t with
  | none => rw [hi] at h; cases h
  | some i => rw [hi] at h; exact ⟨i, rfl, by simpa using h⟩
theorem infoBytes_ok {P : Program} {t : TypeId} {s : Nat} (h : infoBytes P t = some s) : ∃ i, P.info? t = some i ∧ i.bytes = s := by
  unfold infoBytes at h
  cases hi : P.info? t with
  | none => rw [hi] at h; cases h
  | some i => rw [hi] at h; exact ⟨i, rfl, by simpa using h⟩
theorem run_sizeOf' {P : Program} {t : TypeId} {s : Nat} (h : infoSize P t = some s) (w : World) : (sizeOf t).run P w = .ok s w := by
  obtain ⟨i, hi, rfl⟩ := infoSize_ok h
  simp [sizeOf, typeInfo, hi]
theorem isAggT_ok {P : Program} {t : TypeId} {b : Bool} (h : isAggT P t = some b) (w : World) : (isAgg t).run P w = .ok b w := by
  unfold isAggT at h
  cases hu : P.underlying t with
  | none => rw [hu] at h; cases h
  | some d =>
    rw [hu] at h
    simp only [Option.map_some, Option.some.injEq] at h
    subst h
    simp only [isAgg, Sem.run_bind, run_underlying hu, Result.andThen_ok]
    cases d <;> rfl

section
variable {E : Env} {C : Ctx} {o : Oper} {ρ : Operand → AV} {ev : Operand → Value} {rd : List Nat} {k : List Blk → Option Eff} {bs : List Blk} {ef : Eff}

/-- A new variable. -/
theorem new_var (g : Good C) {cs : List AV} {vs : Array Value} (h : CR C cs vs) (t : TypeId) (w' : World) (ho : w'.os = C.w.os) (ht : w'.tape = C.w.tape) (hu : w'.output = C.w.output) (hh : w'.heap = C.w.heap.push (.cells vs t))
    (hr : (execOp ev o).run E.P C.w = .ok (.value (.pointer (some ⟨C.w.heap.size, 0, none⟩))) w') :
    EffOK E.P C o ev (.new { elem := t, sz := cs.length, ep := 0, es := [cs] } fun n => .op n 0 0 0) := by
  intro nm hn
  obtain ⟨le, gd⟩ := new_row g nm hn w' vs t cs.length 1 (0, 0) [cs] ho ht hu hh (fun k _ => by omega) (by rw [h.1]; omega) (by simp) (by simp [maxLen]) (ER_one h)
  refine ⟨_, _, le, gd, rfl, rfl, .inl hr, ?_⟩
  refine .op_mk gd (b := { elem := t, sz := cs.length, ep := 0, es := [cs] }) (by simp [Ctx.put, upd_same]) rfl ?_
  simp [Ctx.put, upd_same]

theorem ok_alloc (g : Good C) {t : TypeId} (ho : o.op = .alloc t) (hp : plan E o ρ = .prim rd k) (hk : k bs = some ef) : EffOK E.P C o ev ef := by
  simp only [plan, ho] at hp
  split at hp
  · rename_i zs hz
    obtain ⟨rfl, rfl⟩ := prim_inj hp
    simp only [Option.some.injEq] at hk
    subst hk
    obtain ⟨i, z, hi, hzz, hall, rfl⟩ := zeroCells_ok hz
    refine new_var g (CR_plain z.cells hall) t (C.w.alloc (.cells z.cells t)) rfl rfl rfl rfl ?_
    simp [execOp, ho, Instr.alloc, zeroValue, typeInfo, hi, hzz, newVar, newRow]
  · cases hp

theorem ok_box (g : Good C) (hρ : ∀ x, VR C (ρ x) (ev x)) {t : TypeId} {x : Operand} (ho : o.op = .box t x) (hp : plan E o ρ = .prim rd k) (hk : k bs = some ef) : EffOK E.P C o ev ef := by
  simp only [plan, ho] at hp
  split at hp
  · rename_i cs hc
    obtain ⟨rfl, rfl⟩ := prim_inj hp
    simp only [Option.some.injEq] at hk
    subst hk
    refine new_var g (cellsOf_rel (hρ x) hc) t (C.w.alloc (.cells (ev x).cells t)) rfl rfl rfl rfl ?_
    simp [execOp, ho, Instr.box, newVar, newRow]
  · cases hp

/-- Cells of a frozen pointer, of an owned variable: what a load gives. -/
theorem partA_load {P : Program} {C : Ctx} {t : TypeId} {cs : List AV} {y : AV} (hp : partA P t cs = some y) (b o' : Nat)
    (hc : ∀ j, j < cs.length → ∃ c, C.w.cell? ⟨b, o' + j, none⟩ = some c ∧ c.oneCell' = true ∧ VR C (cs.getD j .dead) c) :
    ∃ v, (loadVar t ⟨b, o', none⟩).run P C.w = .ok v C.w ∧ VR C y v := by
  unfold partA at hp
  simp only [Option.bind_eq_bind] at hp
  cases hs : infoSize P t with
  | none => rw [hs] at hp; cases hp
  | some s =>
    rw [hs] at hp
    simp only [Option.bind_some] at hp
    cases ha : isAggT P t with
    | none => rw [ha] at hp; cases hp
    | some agg =>
      rw [ha] at hp
      simp only [Option.bind_some] at hp
      cases agg with
      | true =>
        simp only [if_true] at hp
        split at hp
        · rename_i hle
          simp only [Option.some.injEq] at hp
          subst hp
          let f : Nat → Value := fun j => (C.w.cell? ⟨b, o' + j, none⟩).getD undef
          have hf : ∀ j, j < s → C.w.cell? ((⟨b, o', none⟩ : Addr).add j) = some (f j) := fun j hj => by
            obtain ⟨c, hcc, _⟩ := hc j (by omega)
            have e : (⟨b, o', none⟩ : Addr).add j = ⟨b, o' + j, none⟩ := by unfold Addr.add; split <;> simp_all
            rw [e, hcc]
            simp [f, hcc]
          refine ⟨.agg ((List.range s).map f).toArray, ?_, ?_⟩
          · simp [loadVar, isAggT_ok ha, run_sizeOf' hs, run_loadCells C.w _ s f hf]
          · have key : ∀ i, i < s → (((List.range s).map f).toArray.getD i undef) = f i := fun i hi => by simp [Array.getD_eq_getD_getElem?, hi]
            have hlen : (cs.take s).length = s := by simp [hle]
            refine .agg _ (by simp [hle]) (fun i hi => ?_) (fun i hi => ?_)
            · rw [key i (by omega)]
              obtain ⟨c, h1, h2, _⟩ := hc i (by omega)
              simpa [f, h1] using h2
            · rw [key i (by omega), getD_take, if_pos (by omega)]
              obtain ⟨c, h1, _, h3⟩ := hc i (by omega)
              simpa [f, h1] using h3
        · cases hp
      | false =>
        simp only [Bool.false_eq_true, if_false] at hp
        cases cs with
        | nil => cases hp
        | cons x r =>
          simp only [List.head?_cons, Option.some.injEq] at hp
          subst hp
          obtain ⟨c, h1, _, h3⟩ := hc 0 (by simp)
          refine ⟨c, ?_, h3⟩
          have h1' : C.w.cell? ⟨b, o', none⟩ = some c := by simpa using h1
          simp [loadVar, isAggT_ok ha, h1']

/-- The cells of an owned block's element, from one on. -/
theorem owned_cells (g : Good C) {n : Nat} {b : Blk} (hg : C.get n = some b) (hit : b.it.isNone = true) {i j : Nat} (hi : i < b.es.length) (hj : j ≤ b.sz) :
    (((b.es.getD i []).drop j).length = b.sz - j) ∧ ∀ m, m < ((b.es.getD i []).drop j).length → ∃ c, C.w.cell? ⟨(C.β n).1, (C.β n).2.1 + i * b.sz + j + m, none⟩ = some c ∧ c.oneCell' = true ∧ VR C (((b.es.getD i []).drop j).getD m .dead) c := by
  have hb := g.blk n b hg
  unfold BR at hb
  split at hb
  · rename_i h; rw [h] at hit; cases hit
  · obtain ⟨cs, fr, h1, h2, h3, h4, h5, h6, h7⟩ := hb
    have hl : ((b.es.getD i []).drop j).length = b.sz - j := by rw [List.length_drop, h6 i hi]
    refine ⟨hl, fun m hm => ?_⟩
    obtain ⟨v, e1, e2, e3⟩ := h7 i (j + m) hi (by omega)
    refine ⟨v, ?_, e2, by rw [getD_drop]; exact e3⟩
    rw [cell_of_row C.w _ _ cs b.elem fr h1, ← e1]
    congr 1
    omega

theorem ok_load (g : Good C) (hρ : ∀ x, VR C (ρ x) (ev x)) {t : TypeId} {a : Operand} (ho : o.op = .load t a) (hp : plan E o ρ = .prim rd k) (hbs : rd.mapM C.get = some bs) (hk : k bs = some ef) : EffOK E.P C o ev ef := by
  simp only [plan, ho] at hp
  split at hp
  · rename_i cs hc
    obtain ⟨y, hy, rfl⟩ := opt_ok hp hk
    have hf := (hc ▸ hρ a).fp_inv
    generalize hv : ev a = u at hf
    cases hf with
    | fp b o' c hb hlt hcc h1 hr =>
      obtain ⟨v, hrun, hvr⟩ := partA_load (C := C) hy b o' (fun j hj => ⟨c j, hcc j hj, h1 j hj, .fr (hr j hj)⟩)
      refine .same g (v := v) ?_ hvr
      simp [execOp, ho, hv, Instr.loadAt, Instr.sureAddr, hrun]
  · rename_i n e i j hc
    obtain ⟨rfl, rfl⟩ := prim_inj hp
    obtain ⟨b, hb, rfl⟩ := mapM_one hbs
    simp only at hk
    split at hk
    · rename_i hcond
      obtain ⟨he, hit, hi, hj⟩ := hcond
      cases hpa : partA E.P t ((b.es.getD i []).drop j) with
      | none => rw [hpa] at hk; cases hk
      | some y =>
        rw [hpa] at hk
        simp only [Option.map_some, Option.some.injEq] at hk
        subst hk
        have hv := (hc ▸ hρ a).op_inv hb he
        obtain ⟨v, hrun, hvr⟩ := partA_load (C := C) hpa _ _ (owned_cells g hb hit hi hj).2
        refine .same g (v := v) ?_ hvr
        simp [execOp, ho, hv, Instr.loadAt, Instr.sureAddr, hrun]
    · cases hk
  · cases hp

theorem ok_fieldAddr (g : Good C) (hρ : ∀ x, VR C (ρ x) (ev x)) {s : TypeId} {x : Operand} {f : Nat} (ho : o.op = .fieldAddr s x f) (hp : plan E o ρ = .prim rd k) (hbs : rd.mapM C.get = some bs) (hk : k bs = some ef) : EffOK E.P C o ev ef := by
  simp only [plan, ho] at hp
  split at hp
  · rename_i off ft hfa
    have hfa' : ∃ fs fd, E.P.underlying s = some (.struct fs) ∧ fs[f]? = some fd ∧ fd.offset = off ∧ fd.type = ft := by
      unfold fieldAt? at hfa
      split at hfa
      · rename_i fs hu
        cases hfd : fs[f]? with
        | none => rw [hfd] at hfa; cases hfa
        | some fd =>
          rw [hfd] at hfa
          simp only [Option.map_some, Option.some.injEq, Prod.mk.injEq] at hfa
          exact ⟨fs, fd, hu, hfd, hfa.1, hfa.2⟩
      · cases hfa
    obtain ⟨fs, fd, hu, hfd, rfl, rfl⟩ := hfa'
    have hrun : ∀ (sz : Nat), infoSize E.P fd.type = some (sz + 1) → ∀ ad : Addr, ev x = .pointer (some ad) → (execOp ev o).run E.P C.w = .ok (.value (.pointer (some (ad.add fd.offset)))) C.w := by
      intro sz hsz ad hv
      simp [execOp, ho, hv, Instr.fieldAt, run_underlying hu, hfd, Instr.sureAddr, fieldPlace, run_sizeOf' hsz]
    split at hp
    · rename_i sz n e i j hsz hx
      obtain ⟨b, hb, he, rfl⟩ := live_ok hp hbs hk
      have hv := (hx ▸ hρ x).op_inv hb he
      refine .same g (hrun sz hsz _ hv) (.op_mk g hb he ?_)
      congr 2
      unfold Addr.add
      split
      · rename_i h0; rw [h0]; simp
      · simp [Nat.add_assoc]
    · rename_i sz cs hsz hx
      obtain rfl := val_ok hp hk
      have hf := (hx ▸ hρ x).fp_inv
      generalize hv : ev x = u at hf
      cases hf with
      | fp b o' c hb hlt hcc h1 hr =>
        refine .same g (hrun sz hsz _ hv) ?_
        have e : (⟨b, o', none⟩ : Addr).add fd.offset = ⟨b, o' + fd.offset, none⟩ := by unfold Addr.add; split <;> simp_all
        rw [e]
        refine .fr (.fp b _ (fun j => c (fd.offset + j)) hb hlt (fun j hj => ?_) (fun j hj => h1 _ ?_) fun j hj => ?_)
        · have hj' : fd.offset + j < cs.length := by simp at hj; omega
          rw [← hcc _ hj', Nat.add_assoc]
        · simp at hj; omega
        · have hj' : fd.offset + j < cs.length := by simp at hj; omega
          rw [getD_drop]
          exact hr _ hj'
    · cases hp
  · cases hp

theorem part_rel {P : Program} {t : TypeId} {cs : List AV} {vs : Array Value} {off : Nat} {y : AV} (h : CR C cs vs) (hp : partA P t (cs.drop off) = some y) :
    ∃ v, (part t vs off).run P C.w = .ok v C.w ∧ VR C y v := by
  unfold partA at hp
  simp only [Option.bind_eq_bind] at hp
  cases hs : infoSize P t with
  | none => rw [hs] at hp; cases hp
  | some s =>
    rw [hs] at hp
    simp only [Option.bind_some] at hp
    cases ha : isAggT P t with
    | none => rw [ha] at hp; cases hp
    | some agg =>
      rw [ha] at hp
      simp only [Option.bind_some] at hp
      cases agg with
      | true =>
        simp only [if_true] at hp
        split at hp
        · rename_i hle
          simp only [Option.some.injEq] at hp
          subst hp
          simp only [List.length_drop] at hle
          refine ⟨.agg (vs.extract off (off + s)), ?_, ?_⟩
          · simp [part, isAggT_ok ha, run_sizeOf' hs]
          · by_cases hs0 : s = 0
            · subst hs0
              refine .agg _ (by simp; omega) (fun i hi => by simp at hi) (fun i hi => by simp at hi)
            · exact (h.extract off s (by omega)).agg
        · cases hp
      | false =>
        simp only [Bool.false_eq_true, if_false] at hp
        rw [List.head?_drop] at hp
        have hi : off < cs.length := (List.getElem?_eq_some_iff.1 hp).1
        have := (h.2 off hi).2
        rw [List.getD_eq_getElem?_getD, hp] at this
        refine ⟨_, ?_, this⟩
        have hi' : off < vs.size := by rw [h.1]; exact hi
        simp [part, isAggT_ok ha, hi', Array.getD_eq_getD_getElem?]

theorem ok_field (g : Good C) (hρ : ∀ x, VR C (ρ x) (ev x)) {s : TypeId} {x : Operand} {f : Nat} (ho : o.op = .field s x f) (hp : plan E o ρ = .prim rd k) (hk : k bs = some ef) : EffOK E.P C o ev ef := by
  simp only [plan, ho] at hp
  split at hp
  · rename_i off ft cs hfa hx
    obtain ⟨y, hy, rfl⟩ := opt_ok hp hk
    have hfa' : ∃ fs fd, E.P.underlying s = some (.struct fs) ∧ fs[f]? = some fd ∧ fd.offset = off ∧ fd.type = ft := by
      unfold fieldAt? at hfa
      split at hfa
      · rename_i fs hu
        cases hfd : fs[f]? with
        | none => rw [hfd] at hfa; cases hfa
        | some fd =>
          rw [hfd] at hfa
          simp only [Option.map_some, Option.some.injEq, Prod.mk.injEq] at hfa
          exact ⟨fs, fd, hu, hfd, hfa.1, hfa.2⟩
      · cases hfa
    obtain ⟨fs, fd, hu, hfd, rfl, rfl⟩ := hfa'
    obtain ⟨vs, hv, hl, h1, hr⟩ := (hx ▸ hρ x).agg_inv
    obtain ⟨v, hrun, hvr⟩ := part_rel (C := C) ⟨hl, fun i hi => ⟨h1 i hi, hr i hi⟩⟩ hy
    refine .same g (v := v) ?_ hvr
    simp [execOp, ho, hv, Instr.field, run_underlying hu, hfd, asAgg, hrun]
  · cases hp

end
end Go.Am

namespace Go.Am

theorem addr_add (b o k : Nat) : (⟨b, o, none⟩ : Addr).add k = ⟨b, o + k, none⟩ := by unfold Addr.add; split <;> simp_all
theorem overV_get? (l : List Value) (cs : Array Value) (o k : Nat) (hk : k < cs.size) : (overV cs o l)[k]? = some (if o ≤ k ∧ k < o + l.length then l.getD (k - o) undef else cs.getD k undef) := by
  rw [← overV_get l cs o k hk]
  rw [Array.getElem?_eq_getElem (by rw [overV_size]; exact hk)]
  simp [Array.getD_eq_getD_getElem?, overV_size, hk]

theorem heap_setCell_row (w : World) (b k : Nat) (v : Value) (cs : Array Value) (t : TypeId) (fr : Nat × Nat) (h : w.heap[b]? = some (.cells cs t fr)) :
    (w.setCell ⟨b, k, none⟩ v).heap = w.heap.setIfInBounds b (.cells (cs.setIfInBounds k v) t fr) := by
  have hb : b < w.heap.size := (Array.getElem?_eq_some_iff.1 h).1
  simp only [World.setCell]
  apply Array.ext_getElem?
  intro i
  rw [Array.getElem?_modify, Array.getElem?_setIfInBounds]
  by_cases hi : b = i
  · subst hi
    rw [if_pos rfl, if_pos rfl, if_pos hb, h]
    rfl
  · rw [if_neg hi, if_neg hi]
theorem set_same (l : Array Obj) (b : Nat) (x y : Obj) : (l.setIfInBounds b x).setIfInBounds b y = l.setIfInBounds b y := by
  apply Array.ext_getElem?
  intro i
  simp only [Array.getElem?_setIfInBounds]
  by_cases hi : b = i
  · subst hi
    simp
  · simp [hi]
theorem set_self (l : Array Obj) (b : Nat) (x : Obj) (h : l[b]? = some x) : l.setIfInBounds b x = l := by
  have hb : b < l.size := (Array.getElem?_eq_some_iff.1 h).1
  apply Array.ext_getElem?
  intro i
  rw [Array.getElem?_setIfInBounds]
  by_cases hi : b = i
  · subst hi
    rw [if_pos rfl, if_pos hb, h]
  · rw [if_neg hi]

theorem run_storeCells (P : Program) (b o : Nat) (t : TypeId) (fr : Nat × Nat) : ∀ (vs : List Value) (i : Nat) (w : World) (cs : Array Value), w.heap[b]? = some (.cells cs t fr) → (∀ k, k < cs.size → ¬ (fr.1 ≤ k ∧ k < fr.2)) → o + i + vs.length ≤ cs.size → (∀ v ∈ vs, v.oneCell' = true) →
    ∃ w', (storeCells ⟨b, o, none⟩ vs i).run P w = .ok () w' ∧ w'.heap = w.heap.setIfInBounds b (.cells (overV cs (o + i) vs) t fr) ∧ w'.os = w.os ∧ w'.tape = w.tape ∧ w'.output = w.output := by
  intro vs
  induction vs with
  | nil =>
    intro i w cs h _ _ _
    exact ⟨w, rfl, (set_self _ _ _ h).symm, rfl, rfl, rfl⟩
  | cons v r ih =>
    intro i w cs h hfr hl h1
    have hlen : o + i < cs.size := by simp at hl; omega
    have hc : w.cell? ⟨b, o + i, none⟩ = some cs[o + i] := by rw [cell_of_row w b _ cs t fr h]; simp [hlen]
    have hf : w.frozen? ⟨b, o + i, none⟩ = false := by
      unfold World.frozen?
      simp only [h]
      have := hfr (o + i) hlen
      obtain ⟨lo, hi⟩ := fr
      simp only at this ⊢
      simp only [Bool.and_eq_false_iff, decide_eq_false_iff_not]
      omega
    have hv : v.oneCell' = true := h1 v (by simp)
    have hh := heap_setCell_row w b (o + i) v cs t fr h
    have h' : (w.setCell ⟨b, o + i, none⟩ v).heap[b]? = some (.cells (cs.setIfInBounds (o + i) v) t fr) := by
      rw [hh]
      have hb := (Array.getElem?_eq_some_iff.1 h).1
      simp [hb]
    obtain ⟨w', hr, e1, e2, e3, e4⟩ := ih (i + 1) _ _ h' (by simpa using hfr) (by simp at hl ⊢; omega) (fun u hu => h1 u (by simp [hu]))
    refine ⟨w', ?_, ?_, e2, e3, e4⟩
    · simp only [storeCells, Sem.run_bind, addr_add, run_store P w _ v .plain hv, hc, hf, Bool.false_eq_true, if_false, Result.andThen_ok]
      exact hr
    · rw [e1, hh, set_same]
      rfl

theorem idx_same {i i' j j' s sz : Nat} (hj : j + s ≤ sz) (hj' : j' < sz) (h1 : i * sz + j ≤ i' * sz + j') (h2 : i' * sz + j' < i * sz + j + s) : i' = i := by
  rcases Nat.lt_trichotomy i i' with h | h | h
  · have : (i + 1) * sz ≤ i' * sz := Nat.mul_le_mul_right sz h
    rw [Nat.add_mul] at this
    omega
  · exact h.symm
  · have : (i' + 1) * sz ≤ i * sz := Nat.mul_le_mul_right sz h
    rw [Nat.add_mul] at this
    omega
theorem idx_lt {i j sz n : Nat} (hi : i < n) (hj : j < sz) : i * sz + j < n * sz := by
  have : (i + 1) * sz ≤ n * sz := Nat.mul_le_mul_right sz hi
  rw [Nat.add_mul] at this
  omega

theorem getD_set {α : Type} (l : List α) (i k : Nat) (x d : α) : (l.set i x).getD k d = if i = k ∧ k < l.length then x else l.getD k d := by
  simp only [List.getD_eq_getElem?_getD, List.getElem?_set]
  by_cases h : i = k
  · subst h
    by_cases h2 : i < l.length
    · simp [h2]
    · simp [h2]
  · simp [h]

section
variable {E : Env} {C : Ctx} {o : Oper} {ρ : Operand → AV} {ev : Operand → Value} {rd : List Nat} {k : List Blk → Option Eff} {bs : List Blk} {ef : Eff}

/-- Cells of one element of an owned block are written: the block lies where it lay. -/
theorem write_row (g : Good C) {n : Nat} {b : Blk} (hg : C.get n = some b) (hit : b.it = none) {w' : World} (es' : List (List AV)) (hlen : es'.length = b.es.length) (cs' : Array Value) (fr : Nat × Nat)
    (ho : w'.os = C.w.os) (ht : w'.tape = C.w.tape) (hu : w'.output = C.w.output) (hfr : ∀ k, k < cs'.size → ¬ (fr.1 ≤ k ∧ k < fr.2))
    (hh : w'.heap = C.w.heap.setIfInBounds (C.β n).1 (.cells cs' b.elem fr)) (hsz : cs'.size = (C.β n).2.1 + (C.β n).2.2 * b.sz) (hroom : b.es.length ≤ (C.β n).2.2) (hmax : (C.β n).2.2 ≤ maxLen)
    (he : ER C es' b.sz (C.β n).2.1 cs') :
    Le C (C.wr w' n (C.β n).1 (C.β n).2.1 (C.β n).2.2 { b with es := es' }) ∧ Good (C.wr w' n (C.β n).1 (C.β n).2.1 (C.β n).2.2 { b with es := es' }) := by
  have hs : C.w.heap.size ≤ w'.heap.size := by rw [hh]; simp
  have hk : ∀ k, k < C.w.heap.size → k ≠ (C.β n).1 → w'.heap[k]? = C.w.heap[k]? := fun k _ hne => by rw [hh, Array.getElem?_setIfInBounds_ne (fun e => hne e.symm)]
  have le := Ctx.wr_le g w' n (C.β n).1 (C.β n).2.1 (C.β n).2.2 { b with es := es' } b hg (.inl rfl) (Nat.le_refl _) (fun _ => ⟨rfl, hlen, rfl⟩) ho ht hu hs hk
  refine ⟨le, Ctx.wr_good g w' n (C.β n).1 (C.β n).2.1 (C.β n).2.2 { b with es := es' } b hg (.inl rfl) (Nat.le_refl _) (fun _ => ⟨rfl, hlen, rfl⟩) ho ht hu hs hk ?_⟩
  have hβ : (C.wr w' n (C.β n).1 (C.β n).2.1 (C.β n).2.2 { b with es := es' }).β n = C.β n := by simp [Ctx.wr, upd_same]
  generalize hC : C.wr w' n (C.β n).1 (C.β n).2.1 (C.β n).2.2 { b with es := es' } = C' at hβ le ⊢
  have hw' : C'.w = w' := by rw [← hC]; rfl
  unfold BR
  simp only [hit]
  refine ⟨cs', fr, ?_, hfr, by rw [hβ]; exact hsz, by rw [hβ, hlen]; exact hroom, by rw [hβ]; exact hmax, he.1, fun i j hi hj => ?_⟩
  · rw [hβ, hw', hh]
    simp [g.lt hg]
  · rw [hβ]
    obtain ⟨v, a, c, d⟩ := he.2 i j hi hj
    exact ⟨v, a, c, d.mono le⟩

theorem row_of (g : Good C) {n : Nat} {b : Blk} (hg : C.get n = some b) (hit : b.it = none) : ∃ (cs : Array Value) (fr : Nat × Nat), C.w.heap[(C.β n).1]? = some (.cells cs b.elem fr) ∧ (∀ k, k < cs.size → ¬ (fr.1 ≤ k ∧ k < fr.2)) ∧
      cs.size = (C.β n).2.1 + (C.β n).2.2 * b.sz ∧ b.es.length ≤ (C.β n).2.2 ∧ (C.β n).2.2 ≤ maxLen ∧ ER C b.es b.sz (C.β n).2.1 cs := by
  have hb := g.blk n b hg
  unfold BR at hb
  simp only [hit] at hb
  obtain ⟨cs, fr, h1, h2, h3, h4, h5, h6, h7⟩ := hb
  exact ⟨cs, fr, h1, h2, h3, h4, h5, h6, h7⟩

theorem vr_undef : VR C (.tup []) undef := .tup #[] rfl fun i hi => by simp at hi

theorem ER.write {es : List (List AV)} {sz o' : Nat} {cs : Array Value} (h : ER C es sz o' cs) {i j : Nat} {ps : List AV} {us : Array Value} (hp : CR C ps us) (hi : i < es.length) (hj : j + ps.length ≤ sz) (hroom : o' + es.length * sz ≤ cs.size) :
    ER C (es.set i (setCells (es.getD i []) j ps)) sz o' (overV cs (o' + i * sz + j) us.toList) := by
  have hl : us.toList.length = ps.length := by simpa using hp.1
  refine ⟨fun i' hi' => ?_, fun i' j' hi' hj' => ?_⟩
  · rw [List.length_set] at hi'
    rw [getD_set]
    split
    · rw [setCells_length _ _ _ (by rw [h.1 i hi]; omega)]
      exact h.1 i hi
    · exact h.1 i' hi'
  · rw [List.length_set] at hi'
    have hlt : o' + i' * sz + j' < cs.size := by have := idx_lt hi' hj'; omega
    rw [overV_get? _ _ _ _ hlt, getD_set]
    obtain ⟨v, a, b, c⟩ := h.2 i' j' hi' hj'
    by_cases hin : o' + i * sz + j ≤ o' + i' * sz + j' ∧ o' + i' * sz + j' < o' + i * sz + j + us.toList.length
    · rw [if_pos hin]
      have e : i' = i := idx_same (j := j) (s := ps.length) hj hj' (by omega) (by omega)
      subst e
      rw [if_pos ⟨rfl, hi⟩, setCells_get _ _ _ (by rw [h.1 i' hi]; omega), if_pos (by omega)]
      have := hp.2 (j' - j) (by omega)
      refine ⟨_, rfl, ?_, ?_⟩
      · rw [show o' + i' * sz + j' - (o' + i' * sz + j) = j' - j by omega]
        simpa [Array.getD_eq_getD_getElem?, List.getD_eq_getElem?_getD] using this.1
      · rw [show o' + i' * sz + j' - (o' + i' * sz + j) = j' - j by omega]
        simpa [Array.getD_eq_getD_getElem?, List.getD_eq_getElem?_getD] using this.2
    · rw [if_neg hin]
      have hcv : cs.getD (o' + i' * sz + j') undef = v := by simp [Array.getD_eq_getD_getElem?, a]
      refine ⟨v, by rw [hcv], b, ?_⟩
      by_cases e : i = i'
      · subst e
        rw [if_pos ⟨rfl, hi⟩, setCells_get _ _ _ (by rw [h.1 i hi]; omega), if_neg (by omega)]
        exact c
      · rw [if_neg (fun x => e x.1)]
        exact c

theorem isNone_eq {α : Type} {x : Option α} (h : x.isNone = true) : x = none := by cases x <;> simp_all

theorem ok_store (g : Good C) (hρ : ∀ x, VR C (ρ x) (ev x)) {t : TypeId} {a x : Operand} (ho : o.op = .store t a x) (hp : plan E o ρ = .prim rd k) (hbs : rd.mapM C.get = some bs) (hk : k bs = some ef) : EffOK E.P C o ev ef := by
  simp only [plan, ho] at hp
  split at hp
  · rename_i n e i j cs s ha hc hs
    obtain ⟨rfl, rfl⟩ := prim_inj hp
    obtain ⟨b, hb, rfl⟩ := mapM_one hbs
    simp only at hk
    split at hk
    · rename_i hcond
      obtain ⟨he, hit, hi, hl, hj⟩ := hcond
      simp only [Option.some.injEq] at hk
      subst hk
      have hv := (ha ▸ hρ a).op_inv hb he
      have hr := cellsOf_rel (hρ x) hc
      obtain ⟨arr, fr, h1, h2, h3, h4, h5, h6⟩ := row_of g hb (isNone_eq hit)
      have hin : (C.β n).2.1 + i * b.sz + j + (ev x).cells.toList.length ≤ arr.size := by
        have e1 : (ev x).cells.toList.length = s := by simp [hr.1, hl]
        have e2 : (i + 1) * b.sz ≤ (C.β n).2.2 * b.sz := Nat.mul_le_mul_right _ (by omega)
        rw [Nat.add_mul] at e2
        omega
      have hone : ∀ v ∈ (ev x).cells.toList, v.oneCell' = true := by
        intro v hv
        obtain ⟨m, hm, rfl⟩ := List.getElem_of_mem hv
        have hm' : m < cs.length := by simpa [hr.1] using hm
        have := (hr.2 m hm').1
        have hm2 : m < (ev x).cells.size := by simpa using hm
        simpa [Array.getD_eq_getD_getElem?, hm2] using this
      obtain ⟨w', hrun, e1, e2, e3, e4⟩ := run_storeCells E.P (C.β n).1 ((C.β n).2.1 + i * b.sz + j) b.elem fr (ev x).cells.toList 0 C.w arr h1 h2 (by simpa using hin) hone
      intro nm _
      have hw := h6.write hr hi (by omega : j + cs.length ≤ b.sz) (by have := Nat.mul_le_mul_right b.sz h4; omega)
      obtain ⟨le, gd⟩ := write_row g hb (isNone_eq hit) (w' := w') (b.es.set i (setCells (b.es.getD i []) j cs)) (by simp) (overV arr ((C.β n).2.1 + i * b.sz + j) (ev x).cells.toList) fr e2 e3 e4 (by rw [overV_size]; exact h2) (by simpa using e1) (by rw [overV_size]; exact h3) h4 h5 hw
      refine ⟨_, undef, le, gd, rfl, rfl, .inr ⟨?_, rfl⟩, vr_undef⟩
      have hsz : (ev x).cells.size = s := by rw [hr.1, hl]
      simp only [execOp, ho, hv, Instr.storeAt, Instr.sureAddr, storeVar, Sem.run_bind, Sem.run_pure, Result.andThen_ok, run_sizeOf' hs, hsz, ne_eq, not_true_eq_false, if_false, hrun]
      rfl
    · cases hk
  · cases hp

end
end Go.Am

namespace Go.Am

/-- A value reads as a slice of elements. -/
def SR (C : Ctx) (es : List (List AV)) (v : Value) (sz : Nat) : Prop :=
  ∃ a b o cap, v = .slice a es.length cap ∧ es.length ≤ cap ∧ cap ≤ maxLen ∧ (es ≠ [] → a = some ⟨b, o, none⟩) ∧ (∀ i, i < es.length → (es.getD i []).length = sz) ∧
    ∀ i j, i < es.length → j < sz → ∃ c, C.w.cell? ⟨b, o + i * sz + j, none⟩ = some c ∧ c.oneCell' = true ∧ VR C ((es.getD i []).getD j .dead) c

theorem SR_empty {C : Ctx} (a : Option Addr) (cap sz : Nat) (h : cap ≤ maxLen) : SR C [] (.slice a 0 cap) sz :=
  ⟨a, 0, 0, cap, rfl, Nat.zero_le _, h, fun h => absurd rfl h, fun i hi => by simp at hi, fun i j hi => by simp at hi⟩

theorem FR.sl_sr {C : Ctx} {sz : Nat} {es : List (List AV)} {v : Value} (h : FR C.w C.av (.sl sz es) v) : SR C es v sz ∧ (es ≠ [] → 0 < sz) := by
  cases h with
  | sl a b o cap c ha hlen hcap hsz hc h1 hr =>
    exact ⟨⟨some a, b, o, cap, rfl, hlen, hcap, fun h => by rw [(ha h).1], hsz, fun i j hi hj => ⟨c i j, hc i j hi hj, h1 i j hi hj, .fr (hr i j hi hj)⟩⟩, fun h => (ha h).2.1⟩

theorem sliceElems_ok {b : Blk} {e off len : Nat} {es : List (List AV)} (h : sliceElems b e off len = some es) : b.ep = e ∧ off + len ≤ b.es.length ∧ b.it = none ∧ es = (b.es.drop off).take len := by
  unfold sliceElems at h
  split at h
  · rename_i hc
    exact ⟨hc.1, hc.2.1, isNone_eq hc.2.2, by simpa using h.symm⟩
  · cases h

theorem os_sr {C : Ctx} (g : Good C) {n e off len : Nat} {v : Value} (h : VR C (.os n e off len) v) {b : Blk} (hb : C.get n = some b) {es : List (List AV)} (he : sliceElems b e off len = some es) : SR C es v b.sz ∧ es.length = len := by
  obtain ⟨he1, he2, he3, rfl⟩ := sliceElems_ok he
  obtain ⟨a, cap, rfl, hc, hl, ha⟩ := h.os_inv hb he1
  obtain ⟨cs, fr, h1, h2, h3, h4, h5, h6⟩ := row_of g hb he3
  have hlen : ((b.es.drop off).take len).length = len := by simp; omega
  refine ⟨⟨some a, (C.β n).1, (C.β n).2.1 + off * b.sz, cap, by rw [hlen], by omega, by omega, fun hne => ?_, fun i hi => ?_, fun i j hi hj => ?_⟩, hlen⟩
  · have : 0 < ((b.es.drop off).take len).length := List.length_pos_iff.2 hne
    rw [ha (by omega)]
  · rw [hlen] at hi
    rw [getD_take, if_pos hi, getD_drop]
    exact h6.1 _ (by omega)
  · rw [hlen] at hi
    rw [getD_take, if_pos hi, getD_drop]
    obtain ⟨c, e1, e2, e3⟩ := h6.2 (off + i) j (by omega) hj
    refine ⟨c, ?_, e2, e3⟩
    rw [cell_of_row C.w _ _ cs b.elem fr h1, ← e1]
    congr 1
    rw [Nat.add_mul]
    omega

theorem nil_sr {C : Ctx} {v : Value} (h : VR C (.v (.slice none 0 0)) v) (sz : Nat) : SR C [] v sz := by
  rw [h.v_inv.1]
  exact SR_empty none 0 sz (by simp [maxLen])
theorem e0_sr {C : Ctx} {v : Value} (h : VR C .e0 v) (sz : Nat) : SR C [] v sz := by
  obtain ⟨a, rfl⟩ := h.e0_inv
  exact SR_empty (some a) 0 sz (by simp [maxLen])

theorem srd_ok {C : Ctx} (g : Good C) {x : AV} {kk : Nat → List (List AV) → Option Eff} {rd : List Nat} {k : List Blk → Option Eff} {bs : List Blk} {ef : Eff} (hp : srd x kk = .prim rd k) (hbs : rd.mapM C.get = some bs) (hk : k bs = some ef) {v : Value} (h : VR C x v) :
    ∃ es sz, kk sz es = some ef ∧ SR C es v sz := by
  unfold srd at hp
  split at hp
  · obtain ⟨rfl, rfl⟩ := prim_inj hp
    exact ⟨_, _, hk, h.sl_inv.sl_sr.1⟩
  · obtain ⟨rfl, rfl⟩ := prim_inj hp
    exact ⟨[], 0, hk, e0_sr h 0⟩
  · obtain ⟨rfl, rfl⟩ := prim_inj hp
    exact ⟨[], 0, hk, nil_sr h 0⟩
  · obtain ⟨rfl, rfl⟩ := prim_inj hp
    obtain ⟨b, hb, rfl⟩ := mapM_one hbs
    simp only at hk
    cases he : sliceElems b _ _ _ with
    | none => rw [he] at hk; cases hk
    | some es =>
      rw [he] at hk
      exact ⟨es, b.sz, hk, (os_sr g h hb he).1⟩
  · cases hp

section
variable {E : Env} {C : Ctx} {o : Oper} {ρ : Operand → AV} {ev : Operand → Value} {rd : List Nat} {k : List Blk → Option Eff} {bs : List Blk} {ef : Eff}

theorem ok_indexAddr (g : Good C) (hρ : ∀ x, VR C (ρ x) (ev x)) {t : TypeId} {x ix : Operand} (ho : o.op = .indexAddr t x ix) (hp : plan E o ρ = .prim rd k) (hbs : rd.mapM C.get = some bs) (hk : k bs = some ef) : EffOK E.P C o ev ef := by
  simp only [plan, ho] at hp
  split at hp
  · rename_i elem ik i hu hi
    have hiv := (hi ▸ hρ ix).v_inv.1
    have hrun : ∀ (size len cap : Nat) (ad : Addr), infoSize E.P elem = some size → 0 ≤ i → i < (len : Int) → ev x = .slice (some ad) len cap → (execOp ev o).run E.P C.w = .ok (.value (.pointer (some (ad.add (i.toNat * size))))) C.w := by
      intro size len cap ad hs h0 h1 hv
      simp only [execOp, ho, hv, hiv, Instr.indexAt, Sem.run_bind, asIntOf, Sem.run_pure, Result.andThen_ok, run_underlying hu]
      rw [if_pos ⟨h0, h1⟩]
      simp [run_sizeOf' hs]
    split at hp
    · rename_i size sz es hs hx
      split at hp
      · rename_i hc
        obtain ⟨h0, h1, h2⟩ := hc
        obtain rfl := val_ok hp hk
        have hf := (hx ▸ hρ x).sl_inv
        generalize hv : ev x = u at hf
        cases hf with
        | sl a b o' cap c ha hlen hcap hsz hc h1' hr =>
          have hne : es ≠ [] := fun e => by subst e; simp at h1; omega
          have hin : i.toNat < es.length := by omega
          obtain ⟨rfl, hsz0, hav⟩ := ha hne
          subst h2
          refine .same g (hrun _ es.length cap _ hs h0 (by omega) hv) ?_
          rw [addr_add]
          refine .fr (.fp b _ (fun j => c i.toNat j) hav (World.block_lt_of_cell? C.w _ (hc 0 0 (by omega) hsz0)) (fun j hj => ?_) (fun j hj => ?_) fun j hj => ?_)
          · rw [hsz _ hin] at hj; exact hc _ _ hin hj
          · rw [hsz _ hin] at hj; exact h1' _ _ hin hj
          · rw [hsz _ hin] at hj; exact hr _ _ hin hj
      · cases hp
    · rename_i size n e off len hs hx
      obtain ⟨rfl, rfl⟩ := prim_inj hp
      obtain ⟨b, hb, rfl⟩ := mapM_one hbs
      simp only at hk
      split at hk
      · rename_i hc
        obtain ⟨he, hit, hlen, hsz, h0, h1⟩ := hc
        simp only [Option.some.injEq] at hk
        subst hk
        obtain ⟨a, cap, hv, hcap, hl, ha⟩ := (hx ▸ hρ x).os_inv hb he
        rw [ha (by omega)] at hv
        refine .same g (hrun size len cap _ hs h0 h1 hv) (.op_mk g hb he ?_)
        rw [addr_add, hsz, Nat.add_mul]
        congr 3
        omega
      · cases hk
    · cases hp
  · rename_i alen elem ik i hu hi
    have hiv := (hi ▸ hρ ix).v_inv.1
    have hrun : ∀ (size : Nat) (ad : Addr), infoSize E.P elem = some size → 0 ≤ i → i < (alen : Int) → ev x = .pointer (some ad) → (execOp ev o).run E.P C.w = .ok (.value (.pointer (some (ad.add (i.toNat * size))))) C.w := by
      intro size ad hs h0 h1 hv
      simp only [execOp, ho, hv, hiv, Instr.indexAt, Sem.run_bind, asIntOf, Sem.run_pure, Result.andThen_ok, run_underlying hu, Instr.sureAddr]
      rw [if_pos ⟨h0, h1⟩]
      simp [run_sizeOf' hs]
    split at hp
    · rename_i size cs hs hx
      split at hp
      · rename_i hc
        obtain rfl := val_ok hp hk
        have hf := (hx ▸ hρ x).fp_inv
        generalize hv : ev x = u at hf
        cases hf with
        | fp b o' c hb hlt hcc h1 hr =>
          refine .same g (hrun size _ hs hc.1 hc.2 hv) ?_
          rw [addr_add]
          refine .fr (.fp b _ (fun j => c (i.toNat * size + j)) hb hlt (fun j hj => ?_) (fun j hj => h1 _ ?_) fun j hj => ?_)
          · have hj' : i.toNat * size + j < cs.length := by simp at hj; omega
            rw [← hcc _ hj', Nat.add_assoc]
          · simp at hj; omega
          · have hj' : i.toNat * size + j < cs.length := by simp at hj; omega
            rw [getD_drop]
            exact hr _ hj'
      · cases hp
    · rename_i size n e i' j hs hx
      split at hp
      · rename_i hc
        obtain ⟨b, hb, he, rfl⟩ := live_ok hp hbs hk
        refine .same g (hrun size _ hs hc.1 hc.2 ((hx ▸ hρ x).op_inv hb he)) (.op_mk g hb he ?_)
        rw [addr_add]
        congr 3
        omega
      · cases hp
    · cases hp
  · cases hp

theorem ok_index (g : Good C) (hρ : ∀ x, VR C (ρ x) (ev x)) {t : TypeId} {x ix : Operand} (ho : o.op = .index t x ix) (hp : plan E o ρ = .prim rd k) (hk : k bs = some ef) : EffOK E.P C o ev ef := by
  simp only [plan, ho] at hp
  split at hp
  · rename_i s ik i hu hx hi
    have hv := (hx ▸ hρ x).v_inv.1
    have hiv := (hi ▸ hρ ix).v_inv.1
    split at hp
    · rename_i h0
      split at hp
      · rename_i b hb
        obtain rfl := val_ok hp hk
        refine .same g (v := .int .u8 b.toNat) ?_ (.fr (.v rfl))
        have hb' : s.data[i.toNat]? = some b := by simpa using hb
        have hsz : i.toNat < s.size := (Array.getElem?_eq_some_iff.1 hb').1
        have hg : s[i.toNat]? = some b := by
          have he : s.data[i.toNat] = b := (Array.getElem?_eq_some_iff.1 hb').2
          have : s[i.toNat]? = some s[i.toNat] := by simp [getElem?_pos, hsz]
          rw [this]
          congr 1
        simp only [execOp, ho, hv, hiv, Instr.index, Sem.run_bind, asIntOf, Sem.run_pure, Result.andThen_ok, run_underlying hu]
        rw [if_pos h0, hg]
        rfl
      · cases hp
    · cases hp
  · rename_i len elem cs ik i hu hx hi
    have hiv := (hi ▸ hρ ix).v_inv.1
    obtain ⟨vs, hv, hl, h1, hr⟩ := (hx ▸ hρ x).agg_inv
    split at hp
    · rename_i size hs
      split at hp
      · rename_i hc
        obtain ⟨y, hy, rfl⟩ := opt_ok hp hk
        obtain ⟨v, hrun, hvr⟩ := part_rel (C := C) ⟨hl, fun i hi => ⟨h1 i hi, hr i hi⟩⟩ hy
        refine .same g (v := v) ?_ hvr
        simp only [execOp, ho, hv, hiv, Instr.index, Sem.run_bind, asIntOf, Sem.run_pure, Result.andThen_ok, run_underlying hu]
        rw [if_pos hc]
        simp [run_sizeOf' hs, hrun]
      · cases hp
    · cases hp
  · cases hp

end
end Go.Am

namespace Go.Am

/-- Cells of a row, element by element, in a list. -/
def LR (C : Ctx) (es : List (List AV)) (sz : Nat) (vs : List Value) : Prop :=
  vs.length = es.length * sz ∧ (∀ i, i < es.length → (es.getD i []).length = sz) ∧
    ∀ i j, i < es.length → j < sz → ∃ v, vs[i * sz + j]? = some v ∧ v.oneCell' = true ∧ VR C ((es.getD i []).getD j .dead) v
theorem LR.er {C : Ctx} {es : List (List AV)} {sz : Nat} {vs : List Value} (h : LR C es sz vs) {cs : Array Value} {o : Nat} (hc : ∀ k, k < vs.length → cs[o + k]? = vs[k]?) : ER C es sz o cs := by
  refine ⟨h.2.1, fun i j hi hj => ?_⟩
  obtain ⟨v, a, b, c⟩ := h.2.2 i j hi hj
  refine ⟨v, ?_, b, c⟩
  rw [← a, ← hc _ (by rw [h.1]; exact idx_lt hi hj), Nat.add_assoc]
theorem LR.append {C : Ctx} {es fs : List (List AV)} {sz : Nat} {vs us : List Value} (h : LR C es sz vs) (k : LR C fs sz us) : LR C (es ++ fs) sz (vs ++ us) := by
  refine ⟨by rw [List.length_append, List.length_append, h.1, k.1, Nat.add_mul], fun i hi => ?_, fun i j hi hj => ?_⟩
  · rw [getD_append]
    split
    · exact h.2.1 i (by assumption)
    · exact k.2.1 _ (by simp at hi; omega)
  · rw [getD_append]
    by_cases hc : i < es.length
    · rw [if_pos hc]
      obtain ⟨v, a, b, c⟩ := h.2.2 i j hc hj
      refine ⟨v, ?_, b, c⟩
      rw [List.getElem?_append_left (by rw [h.1]; exact idx_lt hc hj)]
      exact a
    · rw [if_neg hc]
      have hi' : i - es.length < fs.length := by simp at hi; omega
      obtain ⟨v, a, b, c⟩ := k.2.2 _ j hi' hj
      refine ⟨v, ?_, b, c⟩
      have e : i * sz = es.length * sz + (i - es.length) * sz := by rw [← Nat.add_mul]; congr 1; omega
      rw [List.getElem?_append_right (by rw [h.1]; omega), h.1, show i * sz + j - es.length * sz = (i - es.length) * sz + j by omega]
      exact a
theorem SR.vals {C : Ctx} {es : List (List AV)} {v : Value} {sz : Nat} (h : SR C es v sz) :
    ∃ a cap vs, v = .slice a es.length cap ∧ es.length ≤ cap ∧ cap ≤ maxLen ∧ LR C es sz vs ∧ (∀ u ∈ vs, u.oneCell' = true) ∧
      (es ≠ [] → ∃ b o, a = some ⟨b, o, none⟩ ∧ ∀ k u, vs[k]? = some u → C.w.cell? ⟨b, o + k, none⟩ = some u) := by
  obtain ⟨a, b, o, cap, rfl, h1, h2, h3, h4, h5⟩ := h
  let f : Nat → Value := fun k => (C.w.cell? ⟨b, o + k, none⟩).getD undef
  have key : ∀ k, k < es.length * sz → ∃ c, C.w.cell? ⟨b, o + k, none⟩ = some c ∧ c.oneCell' = true ∧ VR C ((es.getD (k / sz) []).getD (k % sz) .dead) c := fun k hk => by
    have hsz : 0 < sz := Nat.pos_of_ne_zero (fun e => by subst e; simp at hk)
    have hi : k / sz < es.length := Nat.div_lt_of_lt_mul (by rw [Nat.mul_comm]; exact hk)
    obtain ⟨c, a, b, d⟩ := h5 (k / sz) (k % sz) hi (Nat.mod_lt _ hsz)
    refine ⟨c, ?_, b, d⟩
    rw [← a]
    congr 2
    have := Nat.div_add_mod k sz
    rw [Nat.mul_comm] at this
    omega
  refine ⟨a, cap, (List.range (es.length * sz)).map f, rfl, h1, h2, ⟨by simp, h4, fun i j hi hj => ?_⟩, fun u hu => ?_, fun hne => ⟨b, o, h3 hne, fun k u hu => ?_⟩⟩
  · have hlt := idx_lt hi hj
    obtain ⟨c, a1, b1, d1⟩ := h5 i j hi hj
    refine ⟨c, ?_, b1, d1⟩
    rw [List.getElem?_map, List.getElem?_range hlt]
    simp only [Option.map_some, f]
    rw [← Nat.add_assoc, a1]
    rfl
  · obtain ⟨k, hk, rfl⟩ := List.mem_map.1 hu
    obtain ⟨c, a1, b1, _⟩ := key k (List.mem_range.1 hk)
    simp only [f, a1]
    exact b1
  · have hk : k < es.length * sz := by
      have := (List.getElem?_eq_some_iff.1 hu).1
      simpa using this
    rw [List.getElem?_map, List.getElem?_range hk] at hu
    simp only [Option.map_some, Option.some.injEq, f] at hu
    obtain ⟨c, a1, _⟩ := key k hk
    rw [← hu, a1]
    rfl
theorem LR_zero {C : Ctx} (z : Value) (hall : z.cells.toList.all plain = true) (n : Nat) : LR C (List.replicate n (z.cells.toList.map .v)) z.cells.size ((List.range (n * z.cells.size)).map fun i => z.cells[i % z.cells.size]!) := by
  refine ⟨by simp, fun i hi => ?_, fun i j hi hj => ?_⟩
  · rw [List.length_replicate] at hi
    simp [List.getD_eq_getElem?_getD, hi]
  · rw [List.length_replicate] at hi
    have hlt := idx_lt hi hj
    have hm : (i * z.cells.size + j) % z.cells.size = j := by
      rw [Nat.add_comm, Nat.add_mul_mod_self_right, Nat.mod_eq_of_lt hj]
    have hp : plain z.cells[j] = true := List.all_eq_true.1 hall _ (by simp)
    refine ⟨z.cells[j], ?_, plain_oneCell hp, ?_⟩
    · rw [List.getElem?_map, List.getElem?_range hlt]
      simp [hm, hj]
    · have : ((List.replicate n (z.cells.toList.map AV.v)).getD i []).getD j .dead = .v z.cells[j] := by
        simp [List.getD_eq_getElem?_getD, hi, hj]
      rw [this]
      exact .fr (.v hp)

section
variable {E : Env} {C : Ctx} {o : Oper} {ρ : Operand → AV} {ev : Operand → Value} {rd : List Nat} {k : List Blk → Option Eff} {bs : List Blk} {ef : Eff}

theorem PR_map (hρ : ∀ x, VR C (ρ x) (ev x)) : ∀ l : List (Nat × Operand), PR C (l.map fun p => (p.1, ρ p.2)) (l.map fun p => (p.1, ev p.2))
  | [] => .nil
  | p :: l => .cons ⟨rfl, hρ p.2⟩ (PR_map hρ l)

theorem mapM_places {P : Program} {w : World} : ∀ (l : List Field) (ps : List (Nat × Nat)), placesA P l = some ps → (l.mapM (fun f => (do pure (f.offset, ← sizeOf f.type) : Sem (Nat × Nat)))).run P w = .ok ps w
  | [], ps, h => by simp only [placesA, Option.some.injEq] at h; subst h; simp
  | f :: l, ps, h => by
    simp only [placesA, Option.bind_eq_bind] at h
    cases hs : infoSize P f.type with
    | none => rw [hs] at h; cases h
    | some s =>
      rw [hs] at h
      simp only [Option.bind_some] at h
      cases hp : placesA P l with
      | none => rw [hp] at h; cases h
      | some qs =>
        rw [hp] at h
        simp only [Option.bind_some, Option.some.injEq] at h
        subst h
        have ih := mapM_places (w := w) l qs hp
        rw [List.mapM_cons]
        simp only [Sem.run_bind, run_sizeOf' hs, Result.andThen_ok, Sem.run_pure, ih]

theorem ok_build (g : Good C) (hρ : ∀ x, VR C (ρ x) (ev x)) {t : TypeId} {parts : Array (Nat × Operand)} (ho : o.op = .build t parts) (hp : plan E o ρ = .prim rd k) (hk : k bs = some ef) : EffOK E.P C o ev ef := by
  have hpr := PR_map hρ parts.toList
  simp only [plan, ho] at hp
  split at hp
  · rename_i z fields hz hu
    split at hp
    · rename_i ps hps
      obtain ⟨y, hy, rfl⟩ := opt_ok hp hk
      cases hf : fillA (fun i => ps[i]?) z (parts.toList.map fun p => (p.1, ρ p.2)) with
      | none => rw [hf] at hy; cases hy
      | some cs' =>
        rw [hf] at hy
        simp only [Option.map_some, Option.some.injEq] at hy
        subst hy
        obtain ⟨i, zv, hi, hzz, hall, rfl⟩ := zeroCells_ok hz
        obtain ⟨arr', h1, h2⟩ := fill_rel hpr (CR_plain zv.cells hall) hf
        refine .same g (v := .agg arr') ?_ h2.agg
        have hm := mapM_places (w := C.w) fields.toList ps hps
        simp only [execOp, ho, Instr.build, Sem.run_bind, zeroValue, typeInfo, run_program, Result.andThen_ok, hi, Sem.run_pure, hzz, run_underlying hu]
        rw [Array.mapM_eq_mapM_toList]
        simp only [Sem.run_map, hm, Result.andThen_ok, List.getElem?_toArray, Array.toList_map]
        rw [h1]
        rfl
    · cases hp
  · rename_i z len elem hz hu
    split at hp
    · rename_i size hs
      obtain ⟨y, hy, rfl⟩ := opt_ok hp hk
      cases hf : fillA (fun i => some (i * size, size)) z (parts.toList.map fun p => (p.1, ρ p.2)) with
      | none => rw [hf] at hy; cases hy
      | some cs' =>
        rw [hf] at hy
        simp only [Option.map_some, Option.some.injEq] at hy
        subst hy
        obtain ⟨i, zv, hi, hzz, hall, rfl⟩ := zeroCells_ok hz
        obtain ⟨arr', h1, h2⟩ := fill_rel hpr (CR_plain zv.cells hall) hf
        refine .same g (v := .agg arr') ?_ h2.agg
        simp only [execOp, ho, Instr.build, Sem.run_bind, zeroValue, typeInfo, run_program, Result.andThen_ok, hi, Sem.run_pure, hzz, run_underlying hu, run_sizeOf' hs, Array.toList_map]
        rw [h1]
        rfl
    · cases hp
  · cases hp

/-- Cells of whole elements, one by one. -/
theorem fillE_rel {C : Ctx} {size : Nat} (hsz : 0 < size) {ps : List (Nat × AV)} {vs : List (Nat × Value)} (hp : PR C ps vs) :
    ∀ {es es' : List (List AV)} {arr : Array Value}, arr.size = es.length * size → ER C es size 0 arr → fillE size es ps = some es' →
      ∃ arr', Instr.fill (fun i => some (i * size, size)) arr vs = some arr' ∧ arr'.size = arr.size ∧ es'.length = es.length ∧ ER C es' size 0 arr' := by
  induction hp with
  | nil =>
    intro es es' arr _ h hf
    simp only [fillE, Option.some.injEq] at hf
    subst hf
    exact ⟨arr, rfl, rfl, rfl, h⟩
  | @cons p q ps vs hpq _ ih =>
    intro es es' arr hl h hf
    obtain ⟨i, x⟩ := p
    obtain ⟨i', v⟩ := q
    obtain ⟨rfl, hv⟩ := hpq
    simp only [fillE, Option.bind_eq_bind] at hf
    cases hcx : cellsOf x with
    | none => rw [hcx] at hf; cases hf
    | some pc =>
      rw [hcx] at hf
      simp only [Option.bind_some] at hf
      split at hf
      · rename_i hcond
        obtain ⟨hpl, hi⟩ := hcond
        have hr : CR C pc v.cells := cellsOf_rel hv hcx
        have hw := h.write hr hi (j := 0) (by omega) (by omega)
        have hset : setCells (es.getD i []) 0 pc = pc := by
          unfold setCells
          rw [List.take_zero, List.nil_append, Nat.zero_add, List.drop_eq_nil_of_le (by rw [h.1 i hi, hpl]; exact Nat.le_refl _), List.append_nil]
        rw [hset] at hw
        have e0 : 0 + i * size + 0 = i * size := by omega
        rw [e0] at hw
        have e1 : v.cells.size = size := by have := hr.1; omega
        have hlt : i * size + size ≤ arr.size := by rw [hl]; have := idx_lt (sz := size) (j := size - 1) hi (by omega); omega
        obtain ⟨arr', h1, h2, h3, h4⟩ := ih (arr := overV arr (i * size) v.cells.toList) (by rw [overV_size, hl, List.length_set]) hw hf
        refine ⟨arr', ?_, by rw [h2, overV_size], by rw [h3, List.length_set], h4⟩
        show Instr.fill (fun i => some (i * size, size)) arr ((i, v) :: vs) = some arr'
        simp only [Instr.fill]
        rw [if_neg (by simp only [Bool.or_eq_true, decide_eq_true_eq]; omega)]
        rw [← h1]
        congr 1
        rw [← Array.foldl_toList, Array.toList_zipIdx]
        exact foldl_set_eq v.cells.toList arr (i * size) 0
      · cases hf

theorem map_range_list (n : Nat) (f : Nat → Value) : (Array.range n).map f = ((List.range n).map f).toArray := by
  apply Array.ext'
  simp

/-- A new row behind a slice value. -/
theorem new_slice (g : Good C) (nm : Nat) (hn : ¬ C.born nm) {w' : World} {cs : Array Value} {t sz len room : Nat} {es : List (List AV)} (fr : Nat × Nat)
    (ho : w'.os = C.w.os) (ht : w'.tape = C.w.tape) (hu : w'.output = C.w.output) (hh : w'.heap = C.w.heap.push (.cells cs t fr)) (hfr : ∀ k, k < cs.size → ¬ (fr.1 ≤ k ∧ k < fr.2))
    (hsz : cs.size = room * sz) (hl : es.length = len) (hr : len ≤ room) (hm : room ≤ maxLen) (he : ER C es sz 0 cs) :
    let C' := C.put w' nm C.w.heap.size 0 room { elem := t, sz, ep := 0, es }
    Le C C' ∧ Good C' ∧ VR C' (.os nm 0 0 len) (.slice (some ⟨C.w.heap.size, 0, none⟩) len room) := by
  obtain ⟨le, gd⟩ := new_row g nm hn w' cs t sz room fr es ho ht hu hh hfr hsz (by omega) hm he
  refine ⟨le, gd, .os_mk gd (b := { elem := t, sz, ep := 0, es }) (by simp [Ctx.put, upd_same]) rfl rfl ?_ hr fun _ => ?_⟩
  · simp [Ctx.put, upd_same]
  · simp [Ctx.put, upd_same]

theorem ok_buildSlice (g : Good C) (hρ : ∀ x, VR C (ρ x) (ev x)) {t : TypeId} {len : Nat} {parts : Array (Nat × Operand)} (ho : o.op = .buildSlice t len parts) (hp : plan E o ρ = .prim rd k) (hk : k bs = some ef) : EffOK E.P C o ev ef := by
  have hpr := PR_map hρ parts.toList
  simp only [plan, ho] at hp
  split at hp
  · rename_i elem hu
    split at hp
    · rename_i size z hs hz
      split at hp
      · cases hp
      · rename_i hc
        obtain ⟨rfl, rfl⟩ := prim_inj hp
        simp only at hk
        obtain ⟨i, zv, hi, hzz, hall, rfl⟩ := zeroCells_ok hz
        have hsz : zv.cells.size = size := by
          have : ¬ ((zv.cells.toList.map AV.v).length ≠ size) := fun h => hc (.inr (.inr h))
          simpa using this
        have hpos : 0 < size := Nat.pos_of_ne_zero fun h => hc (.inr (.inl h))
        have h24 : ¬ (len * size > 2 ^ 24) := fun h => hc (.inl h)
        cases hf : fillE size (List.replicate len (zv.cells.toList.map .v)) (parts.toList.map fun p => (p.1, ρ p.2)) with
        | none => rw [hf] at hk; cases hk
        | some es =>
          rw [hf] at hk
          simp only [Option.map_some, Option.some.injEq] at hk
          have hlr : LR C (List.replicate len (zv.cells.toList.map .v)) size ((List.range (len * size)).map fun i => zv.cells[i % size]!) := by
            have := LR_zero (C := C) zv hall len
            rw [hsz] at this
            exact this
          have her : ER C (List.replicate len (zv.cells.toList.map .v)) size 0 ((Array.range (len * size)).map fun i => zv.cells[i % size]!) := by
            rw [map_range_list]
            exact hlr.er (fun k hk => by simp)
          obtain ⟨arr', h1, h2, h3, h4⟩ := fillE_rel hpos hpr (by simp) her hf
          rw [List.length_replicate] at h3
          have hasz : arr'.size = len * size := by rw [h2]; simp
          have hrun : (execOp ev o).run E.P C.w = .ok (.value (.slice (some ⟨C.w.heap.size, 0, none⟩) len len)) (C.w.alloc (.cells arr' elem)) := by
            simp only [execOp, ho, Instr.buildSlice, Sem.run_bind, run_underlying hu, Result.andThen_ok, run_sizeOf' hs]
            rw [if_neg h24]
            by_cases h0 : len * size = 0
            · have e0 : (Array.range (len * size)).map (fun i => zv.cells[i % size]!) = #[] := by simp [h0]
              rw [e0] at h1
              have er : Array.range 0 = #[] := rfl
              simp only [h0, if_true, Sem.run_bind, Sem.run_pure, Result.andThen_ok, Array.toList_map, er, Array.map_empty]
              simp only [h1, newRow, Sem.run_bind, run_newObj_alloc, Result.andThen_ok, Sem.run_pure]
            · simp only [Sem.run_bind, if_neg h0, zeroValue, typeInfo, run_program, hi, hzz, Sem.run_pure, Result.andThen_ok, Array.toList_map, hsz]
              simp only [h1, newRow, Sem.run_bind, run_newObj_alloc, Result.andThen_ok, Sem.run_pure]
          split at hk
          · rename_i h0
            subst hk
            refine .grow g hrun rfl rfl rfl (by simp) (fun b hb => heap_alloc_old C.w _ b hb) ?_
            subst h0
            exact .fr (.e0 _)
          · rename_i h0
            have hm : len ≤ maxLen := by
              have : len ≤ len * size := Nat.le_mul_of_pos_right _ hpos
              simp only [maxLen]
              omega
            subst hk
            unfold newB
            cases hfr : (E.frzB t && es.all fun c => c.all flatC) with
            | true =>
              rw [Bool.and_eq_true] at hfr
              intro nm hn
              have hs' : C.w.heap.size ≤ (C.w.alloc (.cells arr' elem)).heap.size := by simp
              have hk' : ∀ b, b < C.w.heap.size → (C.w.alloc (.cells arr' elem)).heap[b]? = C.w.heap[b]? := fun b hb => heap_alloc_old C.w _ b hb
              have le := Ctx.grow_le g (C.w.alloc (.cells arr' elem)) rfl rfl rfl hs' hk'
              have hblk : (C.w.alloc (.cells arr' elem)).heap[C.w.heap.size]? = some (.cells arr' elem (0, 0)) := by
                show (C.w.heap.push _)[C.w.heap.size]? = _
                simp
              have hcell : ∀ i j, i < es.length → j < size → ∃ u, (C.w.alloc (.cells arr' elem)).cell? ⟨C.w.heap.size, 0 + i * size + j, none⟩ = some u ∧ u.oneCell' = true ∧ VR (C.grow (C.w.alloc (.cells arr' elem))) ((es.getD i []).getD j .dead) u := fun i j hi hj => by
                obtain ⟨u, a, b, c⟩ := h4.2 i j hi hj
                exact ⟨u, by rw [cell_of_row _ _ _ _ _ _ hblk]; exact a, b, c.mono le⟩
              let c : Nat → Nat → Value := fun i j => ((C.w.alloc (.cells arr' elem)).cell? ⟨C.w.heap.size, 0 + i * size + j, none⟩).getD undef
              have hc : ∀ i j, i < es.length → j < size → (C.w.alloc (.cells arr' elem)).cell? ⟨C.w.heap.size, 0 + i * size + j, none⟩ = some (c i j) := fun i j hi hj => by
                obtain ⟨u, a, _, _⟩ := hcell i j hi hj
                simp only [c, a, Option.getD_some]
              have hne : es ≠ [] := fun z => by rw [z] at h3; exact h0 h3.symm
              have hv : VR (C.grow (C.w.alloc (.cells arr' elem))) (.sl size es) (.slice (some ⟨C.w.heap.size, 0, none⟩) es.length len) := by
                refine .fr (.sl _ C.w.heap.size 0 len c (fun _ => ⟨rfl, hpos, fun hav => ?_⟩) (by omega) hm h4.1 hc (fun i j hi hj => ?_) fun i j hi hj => ?_)
                · exact absurd (g.av_lt (show C.av C.w.heap.size from hav)) (Nat.lt_irrefl _)
                · obtain ⟨u, a, b, _⟩ := hcell i j hi hj
                  have : c i j = u := by simp only [c, a, Option.getD_some]
                  rw [this]; exact b
                · obtain ⟨u, a, _, d⟩ := hcell i j hi hj
                  have : c i j = u := by simp only [c, a, Option.getD_some]
                  rw [this]
                  have hfl : flatC ((es.getD i []).getD j .dead) = true := by
                    have h5 := List.all_eq_true.1 (List.all_eq_true.1 hfr.2 (es.getD i []) (by rw [List.getD_eq_getElem?_getD, List.getElem?_eq_getElem hi]; exact List.getElem_mem hi))
                    refine h5 _ ?_
                    have hl := h4.1 i hi
                    rw [List.getD_eq_getElem?_getD (l := es.getD i []), List.getElem?_eq_getElem (by rw [hl]; exact hj)]
                    exact List.getElem_mem _
                  generalize (es.getD i []).getD j .dead = y at hfl d
                  cases y with
                  | v z => obtain ⟨rfl, hp⟩ := d.v_inv; exact .v hp
                  | sl sz es => exact d.sl_inv
                  | e0 => obtain ⟨z, rfl⟩ := d.e0_inv; exact .e0 z
                  | fp cs => exact d.fp_inv
                  | _ => cases hfl
              rw [h3] at hv
              exact ⟨_, _, le, Ctx.grow_good g _ rfl rfl rfl hs' hk', rfl, rfl, .inl hrun, hv⟩
            | false =>
            intro nm hn
            obtain ⟨le, gd, vr⟩ := new_slice g nm hn (w' := C.w.alloc (.cells arr' elem)) (t := elem) (sz := size) (len := len) (room := len) (es := es) (0, 0) rfl rfl rfl rfl (fun k _ => by omega) hasz h3 (Nat.le_refl _) hm h4
            exact ⟨_, _, le, gd, rfl, rfl, .inl hrun, vr⟩
    · cases hp
  · cases hp

end
end Go.Am

namespace Go.Am

theorem run_getObj_iter (P : Program) (w : World) (r : Nat) (s : ByteArray) (pos : Nat) (h : w.heap[r]? = some (.stringIter s pos)) : (getObj r).run P w = .ok (.stringIter s pos) w := by
  simp [getObj, Sem.run, h]
theorem run_setObj_iter (P : Program) (w : World) (r : Nat) (s : ByteArray) (pos : Nat) (o : Obj) (h : w.heap[r]? = some (.stringIter s pos)) : (setObj r o).run P w = .ok () { w with heap := w.heap.setIfInBounds r o } := by
  simp [setObj, Sem.run, h]

section
variable {E : Env} {C : Ctx} {o : Oper} {ρ : Operand → AV} {ev : Operand → Value} {rd : List Nat} {k : List Blk → Option Eff} {bs : List Blk} {ef : Eff}

theorem ok_range (g : Good C) (hρ : ∀ x, VR C (ρ x) (ev x)) {t : TypeId} {x : Operand} (ho : o.op = .range t x) (hp : plan E o ρ = .prim rd k) (hk : k bs = some ef) : EffOK E.P C o ev ef := by
  simp only [plan, ho] at hp
  split at hp
  · rename_i s hu hx
    obtain ⟨rfl, rfl⟩ := prim_inj hp
    simp only [Option.some.injEq] at hk
    subst hk
    have hv := (hx ▸ hρ x).v_inv.1
    intro nm hn
    have hk : ∀ b, b < C.w.heap.size → (C.w.alloc (.stringIter s 0)).heap[b]? = C.w.heap[b]? := fun b hb => heap_alloc_old C.w _ b hb
    have le := Ctx.put_le g (C.w.alloc (.stringIter s 0)) nm C.w.heap.size 0 0 { elem := 0, sz := 0, ep := 0, es := [], it := some (s, 0) } hn (Nat.le_refl _) rfl rfl rfl (by simp) hk
    have gd := Ctx.put_good g (C.w.alloc (.stringIter s 0)) nm C.w.heap.size 0 0 { elem := 0, sz := 0, ep := 0, es := [], it := some (s, 0) } hn (Nat.le_refl _) rfl rfl rfl (by simp) hk (by
      simp only [BR]
      exact ⟨by simp only [Ctx.put, upd_same]; exact heap_alloc_new C.w _, by simp [Ctx.put, upd_same]⟩)
    refine ⟨_, .pointer (some ⟨C.w.heap.size, 0, none⟩), le, gd, rfl, rfl, .inl ?_, .op_mk gd (b := { elem := 0, sz := 0, ep := 0, es := [], it := some (s, 0) }) (by simp [Ctx.put, upd_same]) rfl ?_⟩
    · simp only [execOp, ho, hv, Instr.range, Sem.run_bind, run_underlying hu, Result.andThen_ok, Sem.run_pure, run_newObj_alloc]
      rfl
    · simp [Ctx.put, upd_same]
  · cases hp

theorem ok_next (g : Good C) (hρ : ∀ x, VR C (ρ x) (ev x)) {it : Operand} (ho : o.op = .next it true) (hp : plan E o ρ = .prim rd k) (hbs : rd.mapM C.get = some bs) (hk : k bs = some ef) : EffOK E.P C o ev ef := by
  simp only [plan, ho] at hp
  split at hp
  · rename_i n e hx
    obtain ⟨rfl, rfl⟩ := prim_inj hp
    obtain ⟨b, hb, rfl⟩ := mapM_one hbs
    simp only at hk
    split at hk
    · rename_i s pos hit
      split at hk
      · rename_i he
        have hv := (hx ▸ hρ it).op_inv hb he
        have hbr := g.blk n b hb
        unfold BR at hbr
        simp only [hit] at hbr
        obtain ⟨hh, h0⟩ := hbr
        have hv' : ev it = .pointer (some ⟨(C.β n).1, 0, none⟩) := by rw [hv, h0]; simp
        split at hk
        · rename_i hlt
          simp only [Option.some.injEq] at hk
          subst hk
          intro nm _
          let o' : Obj := .stringIter s (pos + (Utf8.decode s pos).2)
          let w' : World := { C.w with heap := C.w.heap.setIfInBounds (C.β n).1 o' }
          have hs : C.w.heap.size ≤ w'.heap.size := by simp [w']
          have hkk : ∀ k, k < C.w.heap.size → k ≠ (C.β n).1 → w'.heap[k]? = C.w.heap[k]? := fun k _ hne => Array.getElem?_setIfInBounds_ne (fun e => hne e.symm)
          have le := Ctx.wr_le g w' n (C.β n).1 (C.β n).2.1 (C.β n).2.2 { b with it := some (s, pos + (Utf8.decode s pos).2) } b hb (.inl rfl) (Nat.le_refl _) (fun _ => ⟨rfl, rfl, rfl⟩) rfl rfl rfl hs hkk
          have gd := Ctx.wr_good g w' n (C.β n).1 (C.β n).2.1 (C.β n).2.2 { b with it := some (s, pos + (Utf8.decode s pos).2) } b hb (.inl rfl) (Nat.le_refl _) (fun _ => ⟨rfl, rfl, rfl⟩) rfl rfl rfl hs hkk (by
            simp only [BR]
            refine ⟨?_, by simp [Ctx.wr, upd_same, h0]⟩
            have : (C.β n).1 < C.w.heap.size := g.lt hb
            simp [Ctx.wr, upd_same, w', this, o'])
          refine ⟨_, .tuple #[.bool true, goInt pos, .int .i32 (Utf8.decode s pos).1], le, gd, rfl, rfl, .inl ?_, ?_⟩
          · simp only [execOp, ho, hv', Instr.next, Sem.run_bind, run_getObj_iter E.P C.w _ s pos hh, Result.andThen_ok]
            rw [if_pos hlt]
            simp only [Sem.run_bind, run_setObj_iter E.P C.w _ s pos _ hh, Result.andThen_ok, Sem.run_pure]
            rfl
          · refine .tup _ rfl fun i hi => ?_
            simp only [List.length_cons, List.length_nil] at hi
            match i, hi with
            | 0, _ => exact .fr (.v rfl)
            | 1, _ => exact .fr (.v rfl)
            | 2, _ => exact .fr (.v rfl)
        · rename_i hlt
          simp only [Option.some.injEq] at hk
          subst hk
          refine .same g (v := .tuple #[.bool false]) ?_ (.tup _ rfl fun i hi => ?_)
          · simp only [execOp, ho, hv', Instr.next, Sem.run_bind, run_getObj_iter E.P C.w _ s pos hh, Result.andThen_ok]
            rw [if_neg hlt]
            rfl
          · have : i = 0 := by simpa using hi
            subst this
            exact .fr (.v rfl)
      · cases hk
    · cases hk
  · cases hp

theorem wrap64_small (n : Int) (h0 : 0 ≤ n) (h : n ≤ 140737488355328) : IntKind.i64.wrap n = n := by
  exact IntWalk.i64_in _ (by omega)

theorem ok_makeSlice (g : Good C) (hρ : ∀ x, VR C (ρ x) (ev x)) {t : TypeId} {lo co : Operand} (ho : o.op = .makeSlice t lo co) (hp : plan E o ρ = .prim rd k) (hk : k bs = some ef) : EffOK E.P C o ev ef := by
  simp only [plan, ho] at hp
  split at hp
  · rename_i elem kl l kc c hu hl hc
    split at hp
    · rename_i size bytes z hs hby hz
      split at hp
      · rename_i hcond
        obtain ⟨h0, h1, h2, h3, h4, h5⟩ := hcond
        obtain ⟨rfl, rfl⟩ := prim_inj hp
        simp only [Option.some.injEq] at hk
        subst hk
        obtain ⟨i, zv, hi, hzz, hall, rfl⟩ := zeroCells_ok hz
        have hsz : zv.cells.size = size := by simpa using h5
        obtain ⟨i', hi', rfl⟩ := infoBytes_ok hby
        rw [hi] at hi'
        cases hi'
        have hlv := (hl ▸ hρ lo).v_inv.1
        have hcv := (hc ▸ hρ co).v_inv.1
        have hcs : c ≤ 140737488355328 := by
          simp only [roomMax] at h2
          have hb1 : (1 : Int) ≤ (i.bytes : Int) := by omega
          have : 1 * c ≤ (i.bytes : Int) * c := Int.mul_le_mul_of_nonneg_right hb1 (by omega)
          omega
        have hwl := wrap64_small l h0 (by omega)
        have hwc := wrap64_small c (by omega) hcs
        let cells : Array Value := (Array.range (c.toNat * size)).map fun i => zv.cells[i % size]!
        have hrun : (execOp ev o).run E.P C.w = .ok (.value (.slice (some ⟨C.w.heap.size, 0, none⟩) l.toNat c.toNat)) (C.w.alloc (.cells cells elem)) := by
          have hnt : ¬ ((decide (c < 0) || decide ((i.bytes : Int) * c > 2 ^ 48)) = true ∨ decide (l < 0) = true ∨ l > c) := by
            simp only [roomMax] at h2
            simp only [Bool.or_eq_true, decide_eq_true_eq]
            omega
          simp only [execOp, ho, hlv, hcv, Instr.makeSlice, Sem.run_bind, run_underlying hu, Result.andThen_ok, asInt, asIntOf, Sem.run_pure, typeInfo, run_program, hi, hwl, hwc]
          rw [if_neg (by simp only [Bool.or_eq_true, decide_eq_true_eq, roomMax] at h2 ⊢; omega)]
          simp only [Sem.run_bind, run_askRoom, Result.andThen_ok, run_sizeOf' hs]
          by_cases hz0 : c.toNat * size = 0
          · have er : Array.range 0 = #[] := rfl
            simp only [hz0, if_true, Sem.run_bind, Sem.run_pure, Result.andThen_ok, er, Array.map_empty, newRow, run_newObj_alloc, cells]
          · simp only [if_neg hz0, zeroValue, typeInfo, Sem.run_bind, run_program, hi, hzz, Sem.run_pure, Result.andThen_ok, hsz, newRow, run_newObj_alloc, cells]
        intro nm hn
        have hlr : LR C (List.replicate l.toNat (zv.cells.toList.map .v)) size ((List.range (l.toNat * size)).map fun i => zv.cells[i % size]!) := by
          have := LR_zero (C := C) zv hall l.toNat
          rw [hsz] at this
          exact this
        have hle : l.toNat * size ≤ c.toNat * size := Nat.mul_le_mul_right _ (by omega)
        have her : ER C (List.replicate l.toNat (zv.cells.toList.map .v)) size 0 cells := hlr.er (fun k hk => by
          simp only [List.length_map, List.length_range] at hk
          rw [List.getElem?_map, List.getElem?_range hk]
          simp only [cells]
          rw [Array.getElem?_map, Array.getElem?_range, if_pos (by omega)]
          simp)
        obtain ⟨le, gd, vr⟩ := new_slice g nm hn (w' := C.w.alloc (.cells cells elem)) (t := elem) (sz := size) (len := l.toNat) (room := c.toNat) (es := List.replicate l.toNat (zv.cells.toList.map .v)) (0, 0) rfl rfl rfl rfl (fun k _ => by omega) (by simp [cells]) (by simp) (by omega) (by simp only [maxLen]; omega) her
        exact ⟨_, _, le, gd, rfl, rfl, .inl hrun, vr⟩
      · cases hp
    · cases hp
  · cases hp

end
end Go.Am

namespace Go.Am

/-- A bound as it stands in a slice expression. -/
def BV (x : Option Value) (n d : Nat) : Prop := (x = none ∧ n = d) ∨ ∃ k i, x = some (.int k i) ∧ 0 ≤ i ∧ i.toNat = n

theorem run_bound {P : Program} {w : World} {k : IntKind} {i : Int} {y : Nat} {code : BoundsCode} (h0 : 0 ≤ i) (h1 : i.toNat ≤ y) : (Instr.sliceBound (.int k i) y code).run P w = .ok i.toNat w := by
  have : 0 ≤ i ∧ i ≤ y := ⟨h0, by omega⟩
  simp [Instr.sliceBound, asIntOf, this]

theorem run_bounds {P : Program} {w : World} {isSlice : Bool} {len cap l h : Nat} {lo hi : Option Value} (hlo : BV lo l 0) (hhi : BV hi h len) (h1 : l ≤ h) (h2 : h ≤ cap) :
    (Instr.sliceBounds isSlice len cap lo hi none).run P w = .ok (l, h, cap) w := by
  rcases hlo with ⟨rfl, rfl⟩ | ⟨kl, il, rfl, hl0, rfl⟩ <;> rcases hhi with ⟨rfl, rfl⟩ | ⟨kh, ih, rfl, hh0, rfl⟩
  · simp [Instr.sliceBounds]
  · simp [Instr.sliceBounds, run_bound hh0 h2]
  · simp [Instr.sliceBounds, run_bound hl0 h1]
  · simp [Instr.sliceBounds, run_bound hh0 h2, run_bound hl0 h1]

theorem run_bounds0 {P : Program} {w : World} {isSlice : Bool} {len cap : Nat} {lo : Option Value} {k m : IntKind} (hlo : BV lo 0 0) :
    (Instr.sliceBounds isSlice len cap lo (some (.int k 0)) (some (.int m 0))).run P w = .ok (0, 0, 0) w := by
  have e : ∀ (y : Nat) (k : IntKind) (code : BoundsCode), (Instr.sliceBound (.int k 0) y code).run P w = .ok 0 w := fun y k code => by
    have := run_bound (P := P) (w := w) (k := k) (i := 0) (y := y) (code := code) (by omega) (by simp)
    simpa using this
  rcases hlo with ⟨rfl, _⟩ | ⟨kl, il, rfl, hl0, hl1⟩
  · simp [Instr.sliceBounds, e]
  · have : il = 0 := by omega
    subst this
    simp [Instr.sliceBounds, e]

section
variable {E : Env} {C : Ctx} {o : Oper} {ρ : Operand → AV} {ev : Operand → Value} {rd : List Nat} {k : List Blk → Option Eff} {bs : List Blk} {ef : Eff}

theorem bound_bv (hρ : ∀ x, VR C (ρ x) (ev x)) {x : Option Operand} {d n : Nat} (h : bound? (x.map ρ) d = some n) : BV (x.map ev) n d := by
  cases x with
  | none => simp only [Option.map_none, bound?, Option.some.injEq] at h; exact .inl ⟨rfl, h.symm⟩
  | some y =>
    simp only [Option.map_some, bound?] at h
    split at h
    · rename_i he; cases he
    · rename_i kk i he
      simp only [Option.some.injEq] at he
      have hv := (he ▸ hρ y).v_inv.1
      split at h
      · exact .inr ⟨kk, i, by simp [hv], by assumption, by simpa using h⟩
      · cases h
    · cases h

theorem exec_slice {P : Program} {w : World} {t : TypeId} {x : Operand} {lo hi mx : Option Operand} (ho : o.op = .slice t x lo hi mx) {d : TypeDesc} (hu : P.underlying t = some d) (hd : ∀ n e, d ≠ .array n e) :
    (execOp ev o).run P w = ((Instr.slice t (ev x) (lo.map ev) (hi.map ev) (mx.map ev)).run P w).andThen fun a w' => .ok (.value a) w' := by
  have e : (Instr.sliceAt t (ev x) (lo.map ev) (hi.map ev) (mx.map ev)).run P w = (Instr.slice t (ev x) (lo.map ev) (hi.map ev) (mx.map ev)).run P w := by
    simp only [Instr.sliceAt, Sem.run_bind, run_underlying hu, Result.andThen_ok]
  simp only [execOp, ho, Sem.run_bind, e]
  rfl

theorem ok_slice (g : Good C) (hρ : ∀ x, VR C (ρ x) (ev x)) {t : TypeId} {x : Operand} {lo hi mx : Option Operand} (ho : o.op = .slice t x lo hi mx) (hp : plan E o ρ = .prim rd k) (hbs : rd.mapM C.get = some bs) (hk : k bs = some ef) : EffOK E.P C o ev ef := by
  simp only [plan, ho, sliceA] at hp
  split at hp
  · rename_i s hx
    have hv := (hx ▸ hρ x).v_inv.1
    split at hp
    · rename_i hmx
      have hmx' : mx = none := by cases mx <;> simp_all
      subst hmx'
      split at hp
      · rename_i l h hl hh
        split at hp
        · rename_i hc
          obtain ⟨h1, h2, h3⟩ := hc
          obtain rfl := val_ok hp hk
          have hu := isStrT_ok h3
          refine .same g (v := .string (s.extract l h)) ?_ (.fr (.v rfl))
          rw [exec_slice ho hu (by simp)]
          simp [hv, Instr.slice, run_underlying hu, run_bounds (P := E.P) (w := C.w) (isSlice := false) (bound_bv hρ hl) (bound_bv hρ hh) h1 h2]
        · cases hp
      · cases hp
    · cases hp
  · split at hp
    · rename_i elem hu
      have hex := fun w => exec_slice (P := E.P) (w := w) (ev := ev) ho hu (by simp)
      split at hp
      · cases hp
      · rename_i size hs
        have hrun : ∀ (a : Option Addr) (len cap l h : Nat), mx = none → ev x = .slice a len cap → BV (lo.map ev) l 0 → BV (hi.map ev) h len → l ≤ h → h ≤ cap →
            (execOp ev o).run E.P C.w = .ok (.value (.slice (if cap = l then a else a.map (·.add (l * size))) (h - l) (cap - l))) C.w := by
          intro a len cap l h hm hv hl hh h1 h2
          subst hm
          rw [hex]
          simp only [hv, Instr.slice, Sem.run_bind, run_underlying hu, Result.andThen_ok, Option.map_none, run_bounds hl hh h1 h2, run_sizeOf' hs, Sem.run_pure]
        have hrun0 : ∀ (a : Option Addr) (len cap : Nat) (k m : IntKind) , (mx.map ev) = some (.int m 0) → (hi.map ev) = some (.int k 0) → ev x = .slice a len cap → BV (lo.map ev) 0 0 →
            (execOp ev o).run E.P C.w = .ok (.value (.slice a 0 0)) C.w := by
          intro a len cap k m hm hh hv hl
          rw [hex]
          simp only [hv, Instr.slice, Sem.run_bind, run_underlying hu, Result.andThen_ok, hm, hh, run_bounds0 hl, run_sizeOf' hs, Sem.run_pure, if_true, Nat.sub_self]
        have mxn : mx.map ρ = none → mx = none := by intro h; cases mx <;> simp_all
        split at hp
        · rename_i hx hmx
          split at hp
          · rename_i hl hh
            have hx' := val_ok hp hk
            have hv := (hx ▸ hρ x).v_inv.1
            rw [hx']
            refine .same g (hrun none 0 0 0 0 (mxn hmx) hv (bound_bv hρ hl) (bound_bv hρ hh) (Nat.le_refl _) (Nat.le_refl _)) ?_
            rw [hx]
            exact .fr (.v rfl)
          · cases hp
        · rename_i hx hmx
          split at hp
          · rename_i hl hh
            have hx' := val_ok hp hk
            obtain ⟨a, hv⟩ := (hx ▸ hρ x).e0_inv
            rw [hx']
            refine .same g (hrun (some a) 0 0 0 0 (mxn hmx) hv (bound_bv hρ hl) (bound_bv hρ hh) (Nat.le_refl _) (Nat.le_refl _)) ?_
            rw [hx]
            exact .fr (.e0 a)
          · cases hp
        · rename_i sz es hx hmx
          split at hp
          · rename_i l h hl hh
            split at hp
            · rename_i hc
              obtain ⟨h1, h2, rfl⟩ := hc
              obtain rfl := val_ok hp hk
              have hf := (hx ▸ hρ x).sl_inv
              generalize hv : ev x = u at hf
              cases hf with
              | sl a b o' cap c ha hlen hcap hsz hc h1' hr =>
                refine .same g (hrun (some a) es.length cap l h (mxn hmx) hv (bound_bv hρ hl) (bound_bv hρ hh) h1 (by omega)) ?_
                have hl' : ((es.drop l).take (h - l)).length = h - l := by simp; omega
                have key := FR.sl (w := C.w) (av := C.av) (sz := sz) (es := (es.drop l).take (h - l)) (if cap = l then a else a.add (l * sz)) b (o' + l * sz) (cap - l) (fun i j => c (l + i) j)
                  (fun hne => by
                    have : 0 < ((es.drop l).take (h - l)).length := List.length_pos_iff.2 hne
                    obtain ⟨e1, e2, e3⟩ := ha (fun e => by subst e; simp at h2; omega)
                    refine ⟨?_, e2, e3⟩
                    rw [if_neg (by omega), e1, addr_add])
                  (by omega) (by omega)
                  (fun i hi => by rw [hl'] at hi; rw [getD_take, if_pos hi, getD_drop]; exact hsz _ (by omega))
                  (fun i j hi hj => by
                    rw [hl'] at hi
                    rw [← hc (l + i) j (by omega) hj, Nat.add_mul]
                    congr 2
                    omega)
                  (fun i j hi hj => by rw [hl'] at hi; exact h1' _ _ (by omega) hj)
                  (fun i j hi hj => by rw [hl'] at hi; rw [getD_take, if_pos hi, getD_drop]; exact hr _ _ (by omega) hj)
                rw [hl'] at key
                have hif : (if cap = l then some a else (some a).map (·.add (l * sz))) = some (if cap = l then a else a.add (l * sz)) := by split <;> rfl
                rw [hif]
                exact .fr key
            · cases hp
          · cases hp
        · rename_i n e off len hx hmx
          split at hp
          · rename_i l h hl hh
            obtain ⟨rfl, rfl⟩ := prim_inj hp
            obtain ⟨b, hb, rfl⟩ := mapM_one hbs
            simp only at hk
            split at hk
            · rename_i hc
              obtain ⟨he, hit, h1, h2, hsz, h3⟩ := hc
              simp only [Option.some.injEq] at hk
              subst hk
              obtain ⟨a, cap, hv, hcap, hlc, ha⟩ := (hx ▸ hρ x).os_inv hb he
              obtain ⟨cs, fr, _, _, _, h4, _, _⟩ := row_of g hb (isNone_eq hit)
              have hif : (if cap = l then some a else (some a).map (·.add (l * size))) = some (if cap = l then a else a.add (l * size)) := by split <;> rfl
              refine .same g (hrun (some a) len cap l h (mxn hmx) hv (bound_bv hρ hl) (bound_bv hρ hh) h1 (by omega)) (.os_mk g hb he (by rw [hif]) (by omega) (by omega) fun hpos => ?_)
              rw [if_neg (by omega), ha (by omega)]
              simp only [addr_add, hsz, Nat.add_mul]
              congr 1
              omega
            · cases hk
          · cases hp
        · rename_i m hmx
          obtain ⟨mo, rfl, hmo⟩ : ∃ y, mx = some y ∧ ρ y = m := by
            cases mx with
            | none => cases hmx
            | some y => exact ⟨y, rfl, by simpa using hmx⟩
          have m0 : bound? (some m) 0 = some 0 → ∃ mk, (Option.map ev (some mo)) = some (.int mk 0) := by
            intro hm
            have := bound_bv (x := some mo) hρ (d := 0) (n := 0) (by simpa [hmo] using hm)
            rcases this with ⟨h, _⟩ | ⟨kk, i, h, h0, h1⟩
            · cases h
            · have : i = 0 := by omega
              subst this
              exact ⟨kk, h⟩
          have hh0 : ∀ {kk : IntKind}, hi.map ρ = some (.v (.int kk 0)) → hi.map ev = some (.int kk 0) := by
            intro kk h
            cases hi with
            | none => cases h
            | some y =>
              simp only [Option.map_some, Option.some.injEq] at h ⊢
              exact (h ▸ hρ y).v_inv.1
          split at hp
          · rename_i sz es hl hh hm hx
            obtain rfl := val_ok hp hk
            obtain ⟨mk, hmk⟩ := m0 hm
            have hf := (hx ▸ hρ x).sl_inv
            generalize hv : ev x = u at hf
            cases hf with
            | sl a b o' cap c ha hlen hcap hsz hc h1' hr => exact .same g (hrun0 (some a) _ cap _ mk hmk (hh0 hh) hv (bound_bv hρ hl)) (.fr (.e0 a))
          · rename_i hl hh hm hx
            obtain rfl := val_ok hp hk
            obtain ⟨mk, hmk⟩ := m0 hm
            obtain ⟨a, hv⟩ := (hx ▸ hρ x).e0_inv
            exact .same g (hrun0 (some a) 0 0 _ mk hmk (hh0 hh) hv (bound_bv hρ hl)) (.fr (.e0 a))
          · rename_i hl hh hm hx
            have hx' := val_ok hp hk
            obtain ⟨mk, hmk⟩ := m0 hm
            have hv := (hx ▸ hρ x).v_inv.1
            rw [hx']
            refine .same g (hrun0 none 0 0 _ mk hmk (hh0 hh) hv (bound_bv hρ hl)) ?_
            rw [hx]
            exact .fr (.v rfl)
          · rename_i n e off len hl hh hm hx
            obtain ⟨b, hb, he, rfl⟩ := live_ok hp hbs hk
            obtain ⟨mk, hmk⟩ := m0 hm
            obtain ⟨a, cap, hv, _⟩ := (hx ▸ hρ x).os_inv hb he
            exact .same g (hrun0 (some a) len cap _ mk hmk (hh0 hh) hv (bound_bv hρ hl)) (.fr (.e0 a))
          · cases hp
        · cases hp
    · cases hp

end
end Go.Am

namespace Go.Am

section
variable {E : Env} {C : Ctx} {o : Oper} {ρ : Operand → AV} {ev : Operand → Value} {rd : List Nat} {k : List Blk → Option Eff} {bs : List Blk} {ef : Eff}

theorem exec_builtin {P : Program} {w : World} {c : Call} {b : Builtin} (ho : o.op = .call c) (hc : c.callee = .builtin b) :
    (execOp ev o).run P w = (builtin b c.argTypes o.type (c.args.map fun | .const _ => true | _ => false) (c.args.map ev)).run P w := by
  simp only [execOp, ho, resolve, hc, Sem.run_bind, Sem.run_pure, Result.andThen_ok, invoke]
  rfl

theorem args_one (hρ : ∀ x, VR C (ρ x) (ev x)) {args : Array Operand} {x : AV} (h : args.toList.map ρ = [x]) : ∃ v, args.map ev = #[v] ∧ VR C x v := by
  obtain ⟨l⟩ := args
  match l, h with
  | [a], h =>
    simp only [List.map_cons, List.map_nil, List.cons.injEq, and_true] at h
    exact ⟨ev a, by simp, h ▸ hρ a⟩
theorem args_two (hρ : ∀ x, VR C (ρ x) (ev x)) {args : Array Operand} {x y : AV} (h : args.toList.map ρ = [x, y]) : ∃ v u, args.map ev = #[v, u] ∧ VR C x v ∧ VR C y u := by
  obtain ⟨l⟩ := args
  match l, h with
  | [a, b], h =>
    simp only [List.map_cons, List.map_nil, List.cons.injEq, and_true] at h
    exact ⟨ev a, ev b, by simp, h.1 ▸ hρ a, h.2 ▸ hρ b⟩
theorem types_one {ts : Array TypeId} {t : TypeId} (h : ts.toList = [t]) : ts = #[t] := by
  obtain ⟨l⟩ := ts
  simpa using h
theorem types_two {ts : Array TypeId} {t u : TypeId} (h : ts.toList = [t, u]) : ts = #[t, u] := by
  obtain ⟨l⟩ := ts
  simpa using h

theorem allPlain_args (hρ : ∀ x, VR C (ρ x) (ev x)) : ∀ {l : List Operand} {vs : List Value}, allPlain (l.map ρ) = some vs → l.map ev = vs
  | [], vs, h => by simpa [allPlain] using h
  | a :: l, vs, h => by
    simp only [List.map_cons] at h
    cases ha : ρ a with
    | v x =>
      rw [ha] at h
      simp only [allPlain] at h
      cases hr : allPlain (l.map ρ) with
      | none => rw [hr] at h; cases h
      | some us =>
        rw [hr] at h
        simp only [Option.map_some, Option.some.injEq] at h
        subst h
        have := (ha ▸ hρ a).v_inv.1
        simp [this, allPlain_args hρ hr]
    | _ => rw [ha] at h; simp [allPlain] at h

theorem ok_minmax (g : Good C) (hρ : ∀ x, VR C (ρ x) (ev x)) {c : Call} {b : Builtin} {f : Array TypeId → TypeId → Array Value → Sem Value} (ho : o.op = .call c) (hc : c.callee = .builtin b)
    (hb : ∀ ts t cs args, builtin b ts t cs args = (do pure (.value (← f ts t args))))
    (hp : (match allPlain (c.args.toList.map ρ) with | some vs => Plan.opt (plainV (det E.P (f c.argTypes o.type vs.toArray))) | none => .bad) = .prim rd k) (hk : k bs = some ef) : EffOK E.P C o ev ef := by
  split at hp
  · rename_i vs hvs
    obtain ⟨y, hy, rfl⟩ := opt_ok hp hk
    obtain ⟨v, hd, hpl, rfl⟩ := plainV_ok hy
    have ha : c.args.map ev = vs.toArray := by
      apply Array.ext'
      simpa using allPlain_args hρ hvs
    refine .same g (v := v) ?_ (.fr (.v hpl))
    rw [exec_builtin ho hc, hb, ha]
    simp only [Sem.run_bind, det_run hd, Result.andThen_ok, Sem.run_pure]
  · cases hp

theorem ok_len_cap (g : Good C) (hρ : ∀ x, VR C (ρ x) (ev x)) {c : Call} (ho : o.op = .call c) {b : Builtin} (hc : c.callee = .builtin b) (hb : b ≠ .append ∧ b ≠ .copy)
    (hp : plan E o ρ = .prim rd k) (hbs : rd.mapM C.get = some bs) (hk : k bs = some ef) : EffOK E.P C o ev ef := by
  simp only [plan, ho, hc, builtinA] at hp
  split at hp
  · rename_i s t ha ht
    obtain ⟨v, hv, hr⟩ := args_one hρ ha
    split at hp
    · rename_i hu
      obtain rfl := val_ok hp hk
      refine .same g (v := .int .i64 s.size) ?_ (.fr (.v rfl))
      rw [exec_builtin ho hc, hv, types_one ht, hr.v_inv.1]
      simp [builtin, Builtin.len_, run_underlying (isStrT_ok hu), goInt]
    · cases hp
  · rename_i x t _ ha ht
    obtain ⟨v, hv, hr⟩ := args_one hρ ha
    split at hp
    · rename_i hu
      obtain ⟨e, hu⟩ := isSlT_ok hu
      obtain ⟨es, sz, he, hs⟩ := srd_ok g hp hbs hk hr
      simp only [Option.some.injEq] at he
      subst he
      obtain ⟨a, _, _, cap, rfl, _⟩ := hs
      refine .same g (v := .int .i64 es.length) ?_ (.fr (.v rfl))
      rw [exec_builtin ho hc, hv, types_one ht]
      simp [builtin, Builtin.len_, run_underlying hu, goInt]
    · cases hp
  · rename_i t ha ht
    obtain ⟨v, hv, hr⟩ := args_one hρ ha
    split at hp
    · rename_i hu
      obtain ⟨e, hu⟩ := isSlT_ok hu
      obtain rfl := val_ok hp hk
      obtain ⟨a, rfl⟩ := hr.e0_inv
      refine .same g (v := .int .i64 0) ?_ (.fr (.v rfl))
      rw [exec_builtin ho hc, hv, types_one ht]
      simp [builtin, Builtin.cap_, run_underlying hu, goInt]
    · cases hp
  · rename_i t ha ht
    obtain ⟨v, hv, hr⟩ := args_one hρ ha
    split at hp
    · rename_i hu
      obtain ⟨e, hu⟩ := isSlT_ok hu
      obtain rfl := val_ok hp hk
      refine .same g (v := .int .i64 0) ?_ (.fr (.v rfl))
      rw [exec_builtin ho hc, hv, types_one ht, hr.v_inv.1]
      simp [builtin, Builtin.cap_, run_underlying hu, goInt]
    · cases hp
  · exact absurd rfl hb.1
  · exact absurd rfl hb.2
  · exact ok_minmax g hρ ho hc (f := Builtin.min_) (fun _ _ _ _ => rfl) hp hk
  · exact ok_minmax g hρ ho hc (f := Builtin.max_) (fun _ _ _ _ => rfl) hp hk
  · cases hp

/-! Conversions. -/
theorem numsOf_spec {k : IntKind} : ∀ {es : List (List AV)} {l : List Int}, numsOf k es = some l → l.length = es.length ∧ ∀ i, i < es.length → es.getD i [] = [.v (.int k (l.getD i 0))]
  | [], l, h => by simp only [numsOf, Option.some.injEq] at h; subst h; exact ⟨rfl, fun i hi => by simp at hi⟩
  | e :: es, l, h => by
    unfold numsOf at h
    split at h
    · rename_i he; cases he
    · rename_i k' n r he
      simp only [List.cons.injEq] at he
      obtain ⟨rfl, rfl⟩ := he
      split at h
      · rename_i hk
        subst hk
        cases hr : numsOf k' es with
        | none => rw [hr] at h; cases h
        | some l' =>
          rw [hr] at h
          simp only [Option.map_some, Option.some.injEq] at h
          subst h
          obtain ⟨h1, h2⟩ := numsOf_spec hr
          refine ⟨by simp [h1], fun i hi => ?_⟩
          cases i with
          | zero => rfl
          | succ i => simpa using h2 i (by simpa using hi)
      · cases h
    · cases h

/-- A slice of whole numbers reads as these. -/
theorem SR.nums {C : Ctx} {es : List (List AV)} {v : Value} {sz : Nat} (h : SR C es v sz) {k : IntKind} {l : List Int} (hl : numsOf k es = some l) :
    ∃ a cap, v = .slice a l.length cap ∧ (l ≠ [] → ∃ b o, a = some ⟨b, o, none⟩ ∧ ∀ i, i < l.length → C.w.cell? ⟨b, o + i, none⟩ = some (.int k (l.getD i 0))) := by
  obtain ⟨hll, hsp⟩ := numsOf_spec hl
  obtain ⟨a, b, o, cap, rfl, _, _, h3, h4, h5⟩ := h
  refine ⟨a, cap, by rw [hll], fun hne => ⟨b, o, h3 (fun e => hne (List.eq_nil_of_length_eq_zero (by rw [hll, e]; rfl))), fun i hi => ?_⟩⟩
  rw [hll] at hi
  have hs : sz = 1 := by
    have := h4 i hi
    rw [hsp i hi] at this
    exact this.symm
  subst hs
  obtain ⟨c, e1, _, e3⟩ := h5 i 0 hi (by omega)
  rw [hsp i hi] at e3
  have := e3.v_inv.1
  subst this
  simpa using e1

theorem ok_convert (g : Good C) (hρ : ∀ x, VR C (ρ x) (ev x)) {src dst : TypeId} {x : Operand} (ho : o.op = .convert src dst x) (hp : plan E o ρ = .prim rd k) (hbs : rd.mapM C.get = some bs) (hk : k bs = some ef) : EffOK E.P C o ev ef := by
  have hex : ∀ w, (execOp ev o).run E.P w = ((convert src dst (ev x)).run E.P w).andThen fun a w' => .ok (.value a) w' := by
    intro w
    simp only [execOp, ho, Sem.run_bind]
    rfl
  simp only [plan, ho, convA] at hp
  split at hp
  · rename_i a ha
    obtain ⟨y, hy, rfl⟩ := opt_ok hp hk
    obtain ⟨v, hd, hpl, rfl⟩ := plainV_ok hy
    refine .same g (v := v) ?_ (.fr (.v hpl))
    have hv := (ha ▸ hρ x).v_inv.1
    rw [hex, hv, det_run hd]
    rfl
  · split at hp
    · rename_i e hs
      split at hp
      · rename_i hc
        simp only [Bool.and_eq_true] at hc
        have hd := isStrT_ok hc.1
        have he := isU8T_ok hc.2
        obtain ⟨es, sz, hes, hsr⟩ := srd_ok g hp hbs hk (hρ x)
        cases hb : numsOf .u8 es with
        | none => rw [hb] at hes; cases hes
        | some l =>
          rw [hb] at hes
          simp only [Option.map_some, Option.some.injEq] at hes
          subst hes
          obtain ⟨a, cap, hv, hcell⟩ := hsr.nums hb
          refine .same g (v := .string (strOfNums l)) ?_ (.fr (.v rfl))
          rw [hex, hv]
          cases hl : l with
          | nil =>
            cases a with
            | none =>
              rw [run_convert_bytes_nil C.w src e hs he _ _ dst hd]
              rfl
            | some ad =>
              simp only [convert, Sem.run_bind, run_underlying hs, run_underlying hd, run_underlying he, Result.andThen_ok]
              simp [Conv.bytesToString, loadCells, loadCellsFrom, strOfNums, ByteArray.empty, ByteArray.emptyWithCapacity]
              rfl
          | cons x0 l0 =>
            obtain ⟨b, o', rfl, hc⟩ := hcell (by rw [hl]; simp)
            rw [← hl, run_convert_bytes_arg C.w src e hs he b o' _ cap l rfl hc dst hd]
            rfl
      · cases hp
    · cases hp

end
end Go.Am

namespace Go.Am

/-- What is appended: how many elements, which cells. -/
structure Src (P : Program) (w : World) (x : Value) (size n : Nat) (news : List Value) : Prop where
  len : ∀ w', (Builtin.lenOf x).run P w' = .ok n w'
  cells : ∀ w', (∀ a, w'.cell? a = w.cell? a) → (Builtin.firstCells size n x).run P w' = .ok news.toArray w'

section
variable {P : Program} {w : World} {t t' ty e : TypeId} {i : TypeInfo} {z x : Value} {n : Nat} {news : List Value}

theorem append_room (ht : P.underlying t = some (.slice e)) (hd' : (∃ e', P.underlying t' = some (.slice e')) ∨ P.underlying t' = some .string) (hi : P.info? e = some i) (hx : Src P w x i.size n news) (base : Option Addr) (sLen sCap : Nat) (hroom : sLen + n ≤ sCap) :
    (Builtin.append_ #[t, t'] ty #[.slice base sLen sCap, x]).run P w =
      ((match base with | some a => storeCells (a.add (sLen * i.size)) news | none => pure () : Sem Unit).run P w).andThen fun _ w' => .ok (.slice base (sLen + n) sCap) w' := by
  have hfc := hx.cells w (fun _ => rfl)
  rcases hd' with ⟨e', h⟩ | h <;> cases base <;> simp [Builtin.append_, run_underlying ht, run_underlying h, sizeOf, typeInfo, hi, hx.len, hroom, hfc]

theorem append_grow (ht : P.underlying t = some (.slice e)) (hd' : (∃ e', P.underlying t' = some (.slice e')) ∨ P.underlying t' = some .string) (hi : P.info? e = some i) (hz : i.zero = some z) (hx : Src P w x i.size n news) (base : Option Addr) (sLen sCap : Nat) (olds : List Value)
    (hold : ∀ w', (∀ a, w'.cell? a = w.cell? a) → (Builtin.firstCells i.size sLen (.slice base sLen sCap)).run P w' = .ok olds.toArray w')
    (hg : sCap < sLen + n) (h63 : ((sLen + n : Nat) : Int) ≤ 9223372036854775807) (hfit : Builtin.nextslicecap (sLen + n) sCap * i.bytes ≤ 281474976710656) :
    (Builtin.append_ #[t, t'] ty #[.slice base sLen sCap, x]).run P w =
      .ok (.slice (some ⟨w.heap.size, 0, none⟩) (sLen + n) (grownCap w (sLen + n) sCap e))
        (w.drew.alloc (.cells (olds ++ news ++ (Builtin.zeroCells z.cells (grownCap w (sLen + n) sCap e - (sLen + n))).toList).toArray e)) := by
  have hn : ¬ (sLen + n ≤ sCap) := by omega
  have h63' : ¬ (9223372036854775807 < ((sLen : Int) + (n : Int))) := by omega
  have h48' : ¬ (281474976710656 < Builtin.nextslicecap (sLen + n) sCap * i.bytes) := by omega
  have hfc := hx.cells w.drew (fun _ => rfl)
  have hfo := hold w.drew (fun _ => rfl)
  rcases hd' with ⟨e', h⟩ | h <;>
  · simp [Builtin.append_, run_underlying ht, run_underlying h, sizeOf, typeInfo, zeroValue, hi, hz, hx.len, hn, h63', h48', Question.forced, hfc, hfo, newRow, grownCap]
    try (congr 2; apply Array.ext'; simp)

/-- An argument of append, as it goes into the two ways. -/
structure App (P : Program) (w : World) (t t' ty e : TypeId) (i : TypeInfo) (z x : Value) (n : Nat) (news : List Value) : Prop where
  room : ∀ (base : Option Addr) (sLen sCap : Nat), sLen + n ≤ sCap → (Builtin.append_ #[t, t'] ty #[.slice base sLen sCap, x]).run P w =
      ((match base with | some a => storeCells (a.add (sLen * i.size)) news | none => pure () : Sem Unit).run P w).andThen fun _ w' => .ok (.slice base (sLen + n) sCap) w'
  grow : ∀ (base : Option Addr) (sLen sCap : Nat) (olds : List Value), (∀ w', (∀ a, w'.cell? a = w.cell? a) → (Builtin.firstCells i.size sLen (.slice base sLen sCap)).run P w' = .ok olds.toArray w') →
    sCap < sLen + n → ((sLen + n : Nat) : Int) ≤ 9223372036854775807 → Builtin.nextslicecap (sLen + n) sCap * i.bytes ≤ 281474976710656 →
    (Builtin.append_ #[t, t'] ty #[.slice base sLen sCap, x]).run P w =
      .ok (.slice (some ⟨w.heap.size, 0, none⟩) (sLen + n) (grownCap w (sLen + n) sCap e))
        (w.drew.alloc (.cells (olds ++ news ++ (Builtin.zeroCells z.cells (grownCap w (sLen + n) sCap e - (sLen + n))).toList).toArray e))
theorem App.of_src (ht : P.underlying t = some (.slice e)) (hd' : (∃ e', P.underlying t' = some (.slice e')) ∨ P.underlying t' = some .string) (hi : P.info? e = some i) (hz : i.zero = some z) (hx : Src P w x i.size n news) : App P w t t' ty e i z x n news :=
  ⟨fun base sLen sCap h => append_room ht hd' hi hx base sLen sCap h, fun base sLen sCap olds h1 h2 h3 h4 => append_grow ht hd' hi hz hx base sLen sCap olds h1 h2 h3 h4⟩
theorem App.of_zero (ht : P.underlying t = some (.slice e)) {k k' : IntKind} {l : Int} (hd' : P.underlying t' = some (.int k)) (hi : P.info? e = some i) (hz : i.zero = some z) (h0 : 0 ≤ l) (h1 : l ≤ 140737488355328) (h2 : (i.bytes : Int) * l ≤ 140737488355328) (hzs : z.cells.size = i.size) :
    App P w t t' ty e i z (.int k' l) l.toNat (Builtin.zeroCells z.cells l.toNat).toList := by
  have hw : IntKind.i64.wrap l = l := IntWalk.i64_in _ (by omega)
  have hn : ¬ (l < 0) := by omega
  have hb' : ¬ (281474976710656 < l * (i.bytes : Int)) := by rw [Int.mul_comm]; omega
  have hz0 : l.toNat * i.size = 0 → Builtin.zeroCells z.cells l.toNat = #[] := fun h => by
    apply Array.ext'
    simp [Builtin.zeroCells, hzs, h]
  refine ⟨fun base sLen sCap hroom => ?_, fun base sLen sCap olds hold hg h63 hfit => ?_⟩
  · by_cases h : l.toNat * i.size = 0
    · cases base <;> simp [Builtin.append_, run_underlying ht, run_underlying hd', sizeOf, typeInfo, hi, asInt, asIntOf, hw, hn, hb', hroom, h, hz0 h]
    · cases base <;> simp [Builtin.append_, run_underlying ht, run_underlying hd', sizeOf, typeInfo, hi, asInt, asIntOf, hw, hn, hb', hroom, h, zeroValue, hz]
  · have hnr : ¬ (sLen + l.toNat ≤ sCap) := by omega
    have h63' : ¬ (9223372036854775807 < ((sLen : Int) + (l.toNat : Int))) := by omega
    have h63'' : ¬ (9223372036854775807 < ((sLen : Int) + max l 0)) := by omega
    have h48' : ¬ (281474976710656 < Builtin.nextslicecap (sLen + l.toNat) sCap * i.bytes) := by omega
    have hfo := hold w.drew (fun _ => rfl)
    by_cases h : l.toNat * i.size = 0
    · simp [Builtin.append_, run_underlying ht, run_underlying hd', sizeOf, typeInfo, hi, asInt, asIntOf, hw, hn, hb', hnr, h63', h63'', h48', h, hz0 h, zeroValue, hz, Question.forced, hfo, newRow, grownCap]
      try (congr 2; apply Array.ext'; simp)
    · simp [Builtin.append_, run_underlying ht, run_underlying hd', sizeOf, typeInfo, hi, asInt, asIntOf, hw, hn, hb', hnr, h63', h63'', h48', h, zeroValue, hz, Question.forced, hfo, newRow, grownCap]
      try (congr 2; apply Array.ext'; simp)
end

theorem SR.src {P : Program} {C : Ctx} {es : List (List AV)} {v : Value} {sz size : Nat} (h : SR C es v sz) (hs : es = [] ∨ sz = size) :
    ∃ news, Src P C.w v size es.length news ∧ news.length = es.length * size ∧ (∀ u ∈ news, u.oneCell' = true) ∧ LR C es size news := by
  obtain ⟨a, cap, vs, rfl, _, _, hlr, h1, hc⟩ := h.vals
  rcases hs with rfl | rfl
  · refine ⟨[], ⟨fun w' => rfl, fun w' _ => ?_⟩, by simp, by simp, ⟨by simp, fun i hi => by simp at hi, fun i j hi => by simp at hi⟩⟩
    cases a <;> simp [Builtin.firstCells, loadCells, loadCellsFrom]
  · refine ⟨vs, ⟨fun w' => rfl, fun w' hw => ?_⟩, hlr.1, h1, hlr⟩
    by_cases hne : es = []
    · subst hne
      have : vs = [] := List.eq_nil_of_length_eq_zero (by simpa using hlr.1)
      subst this
      cases a <;> simp [Builtin.firstCells, loadCells, loadCellsFrom]
    · obtain ⟨b, o, rfl, hcell⟩ := hc hne
      exact run_firstCells_some w' sz es.length ⟨b, o, none⟩ es.length cap vs hlr.1 (fun j u hj => by rw [hw, addr_add]; exact hcell j u hj)

section
variable {E : Env} {C : Ctx} {o : Oper} {ρ : Operand → AV} {ev : Operand → Value} {rd : List Nat} {k : List Blk → Option Eff} {bs : List Blk} {ef : Eff}

theorem zero_len {z : Value} {size : Nat} (h : z.cells.size = size) (n : Nat) : (Builtin.zeroCells z.cells n).toList.length = n * size := by
  simp [Builtin.zeroCells, h]

/-- A slice that came out of nothing. -/
theorem append_fresh (g : Good C) {P : Program} {t t' e : TypeId} {i : TypeInfo} {z v u : Value} (hzs : z.cells.size = i.size)
    (hb : 0 < i.bytes) {new : List (List AV)} {news : List Value} (hx : App P C.w t t' o.type e i z u new.length news) (hlr : LR C new i.size news) (a : Option Addr) (hv : v = .slice a 0 0) (hne : new ≠ []) (hfit : new.length * i.bytes ≤ roomMax)
    (hrun : (execOp ev o).run P C.w = ((Builtin.append_ #[t, t'] o.type #[v, u]).run P C.w).andThen fun a w' => .ok (.value a) w') :
    EffOK P C o ev (.new { elem := e, sz := i.size, ep := 0, es := new } fun n => .os n 0 0 new.length) := by
  intro nm hn
  subst hv
  have hpos : 0 < new.length := List.length_pos_iff.2 hne
  simp only [roomMax] at hfit
  have hsm : new.length ≤ 140737488355328 := Nat.le_trans (Nat.le_mul_of_pos_right _ hb) hfit
  have hr := hx.grow a 0 0 [] (fun w' _ => by cases a <;> simp [Builtin.firstCells, loadCells, loadCellsFrom]) (by omega) (by omega) (by rw [Nat.zero_add]; exact growslice_fits hpos hfit)
  simp only [Nat.zero_add, List.nil_append] at hr
  have hge := grownCap_ge C.w new.length 0 e
  have hcm := grownCap_le_maxLen C.w new.length 0 e (by simp only [maxLen]; omega)
  have hsz : (news ++ (Builtin.zeroCells z.cells (grownCap C.w new.length 0 e - new.length)).toList).toArray.size = grownCap C.w new.length 0 e * i.size := by
    rw [List.size_toArray, List.length_append, hlr.1, zero_len hzs, ← Nat.add_mul]
    congr 1
    omega
  obtain ⟨le, gd, vr⟩ := new_slice g nm hn (w' := C.w.drew.alloc (.cells (news ++ (Builtin.zeroCells z.cells (grownCap C.w new.length 0 e - new.length)).toList).toArray e)) (t := e) (sz := i.size) (len := new.length) (room := grownCap C.w new.length 0 e) (es := new) (0, 0)
    rfl rfl rfl rfl (fun k _ => by omega) hsz rfl hge hcm (hlr.er (fun k hk => by rw [Nat.zero_add, List.getElem?_toArray, List.getElem?_append_left hk]))
  exact ⟨_, _, le, gd, rfl, rfl, .inl (by rw [hrun, hr]; rfl), vr⟩

/-- Onto a slice of an owned block. -/
theorem append_onto (g : Good C) {P : Program} {t t' el : TypeId} {i : TypeInfo} {z v u : Value} (hzs : z.cells.size = i.size)
    (hb : 0 < i.bytes) {new : List (List AV)} {news : List Value} (hx : App P C.w t t' o.type el i z u new.length news) (h1 : ∀ u ∈ news, u.oneCell' = true) (hlr : LR C new i.size news)
    {n ep off len : Nat} (hv : VR C (.os n ep off len) v) {b : Blk} (hg : C.get n = some b) (he : b.ep = ep) (hit : b.it = none) (hlen : off + len ≤ b.es.length) (hbs : b.sz = i.size) (hbe : b.elem = el) (hne : new ≠ []) (hfit : (len + new.length) * i.bytes ≤ roomMax)
    (hrun : (execOp ev o).run P C.w = ((Builtin.append_ #[t, t'] o.type #[v, u]).run P C.w).andThen fun a w' => .ok (.value a) w') :
    EffOK P C o ev (.set n { b with ep := ep + 1, es := (b.es.drop off).take len ++ new } (.os n (ep + 1) 0 (len + new.length))) := by
  intro nm _
  have hpos : 0 < new.length := List.length_pos_iff.2 hne
  simp only [roomMax] at hfit
  have hsm : len + new.length ≤ 140737488355328 := Nat.le_trans (Nat.le_mul_of_pos_right _ hb) hfit
  obtain ⟨a, cap, rfl, hcap, hlc, ha⟩ := hv.os_inv hg he
  obtain ⟨arr, fr, r1, r2, r3, r4, r5, r6⟩ := row_of g hg hit
  have hsr := (os_sr g hv hg (es := (b.es.drop off).take len) (by unfold sliceElems; rw [if_pos ⟨he, hlen, by simp [hit]⟩])).1
  have hol : ((b.es.drop off).take len).length = len := by simp; omega
  obtain ⟨a', cap', vs, hav, _, _, olr, oone, ocell⟩ := hsr.vals
  rw [hol] at hav
  injection hav with e1 e2 e3
  subst e1
  have hesl : ((b.es.drop off).take len ++ new).length = len + new.length := by rw [List.length_append, hol]
  rw [hbs] at olr
  have hall := olr.append hlr
  by_cases hroom : len + new.length ≤ cap
  · -- in place
    have hpa : a = ⟨(C.β n).1, (C.β n).2.1 + off * b.sz, none⟩ := ha (by omega)
    subst hpa
    have hr := hx.room (some ⟨(C.β n).1, (C.β n).2.1 + off * b.sz, none⟩) len cap hroom
    have hin : (C.β n).2.1 + off * b.sz + len * i.size + news.length ≤ arr.size := by
      rw [hlr.1, r3, hbs, ← hcap]
      have e4 : (off + cap) * i.size = off * i.size + cap * i.size := Nat.add_mul ..
      have e5 : len * i.size + new.length * i.size ≤ cap * i.size := by rw [← Nat.add_mul]; exact Nat.mul_le_mul_right _ hroom
      omega
    obtain ⟨w', hst, w1, w2, w3, w4⟩ := run_storeCells P (C.β n).1 ((C.β n).2.1 + off * b.sz + len * i.size) b.elem fr news 0 C.w arr r1 r2 (by simpa using hin) h1
    simp only [Nat.add_zero] at w1
    have hs : C.w.heap.size ≤ w'.heap.size := by rw [w1]; simp
    have hk : ∀ k, k < C.w.heap.size → k ≠ (C.β n).1 → w'.heap[k]? = C.w.heap[k]? := fun k _ hne => by rw [w1, Array.getElem?_setIfInBounds_ne (fun e => hne e.symm)]
    let b' : Blk := { b with ep := ep + 1, es := (b.es.drop off).take len ++ new }
    have le := Ctx.wr_le g w' n (C.β n).1 ((C.β n).2.1 + off * b.sz) cap b' b hg (.inl rfl) (by simp only [b']; omega) (fun h => by simp only [b'] at h; omega) w2 w3 w4 hs hk
    have gd := Ctx.wr_good g w' n (C.β n).1 ((C.β n).2.1 + off * b.sz) cap b' b hg (.inl rfl) (by simp only [b']; omega) (fun h => by simp only [b'] at h; omega) w2 w3 w4 hs hk (by
      have er : ER C ((b.es.drop off).take len ++ new) i.size ((C.β n).2.1 + off * b.sz) (overV arr ((C.β n).2.1 + off * b.sz + len * i.size) news) := by
        refine hall.er (fun k hk => ?_)
        rw [List.length_append, olr.1, hol] at hk
        have hlt : (C.β n).2.1 + off * b.sz + k < arr.size := by have := hlr.1; omega
        rw [overV_get? _ _ _ _ hlt]
        by_cases hc : (C.β n).2.1 + off * b.sz + len * i.size ≤ (C.β n).2.1 + off * b.sz + k ∧ (C.β n).2.1 + off * b.sz + k < (C.β n).2.1 + off * b.sz + len * i.size + news.length
        · rw [if_pos hc, List.getElem?_append_right (by rw [olr.1, hol]; omega), olr.1, hol]
          rw [show (C.β n).2.1 + off * b.sz + k - ((C.β n).2.1 + off * b.sz + len * i.size) = k - len * i.size by omega]
          rw [List.getD_eq_getElem?_getD, List.getElem?_eq_getElem (by omega)]
          rfl
        · rw [if_neg hc]
          have hk' : k < vs.length := by rw [olr.1, hol]; omega
          rw [List.getElem?_append_left hk', List.getElem?_eq_getElem hk']
          have hne' : (b.es.drop off).take len ≠ [] := fun e => by
            rw [e] at olr
            have := olr.1
            simp at this
            rw [this] at hk'
            simp at hk'
          obtain ⟨bb, oo, h5, h6⟩ := ocell hne'
          injection h5 with h5
          injection h5 with h7 h8
          have := h6 k _ (List.getElem?_eq_getElem hk')
          rw [← h7, ← h8, cell_of_row C.w _ _ arr b.elem fr r1] at this
          rw [Array.getD_eq_getD_getElem?, this]
          rfl
      have hβ : (C.wr w' n (C.β n).1 ((C.β n).2.1 + off * b.sz) cap b').β n = ((C.β n).1, (C.β n).2.1 + off * b.sz, cap) := by simp only [Ctx.wr, upd_same]
      have hw' : (C.wr w' n (C.β n).1 ((C.β n).2.1 + off * b.sz) cap b').w = w' := rfl
      generalize C.wr w' n (C.β n).1 ((C.β n).2.1 + off * b.sz) cap b' = C' at hβ hw' le ⊢
      unfold BR
      simp only [b', hit, hβ, hw']
      refine ⟨overV arr ((C.β n).2.1 + off * b.sz + len * i.size) news, fr, ?_, by rw [overV_size]; exact r2, ?_, ?_, ?_, ?_, fun p q hp hq => ?_⟩
      · rw [w1]
        simp [g.lt hg]
      · simp only [overV_size, r3, ← hcap, Nat.add_mul]
        omega
      · rw [hesl]
        exact hroom
      · omega
      · intro p hp
        rw [hbs]
        exact er.1 p hp
      · obtain ⟨c, c1, c2, c3⟩ := er.2 p q hp (by rw [hbs] at hq; exact hq)
        refine ⟨c, ?_, c2, c3.mono le⟩
        rw [hbs] at c1 ⊢
        exact c1)
    refine ⟨_, .slice (some ⟨(C.β n).1, (C.β n).2.1 + off * b.sz, none⟩) (len + new.length) cap, le, gd, rfl, rfl, .inl ?_, .os_mk gd (b := b') (by simp [Ctx.wr, upd_same, b']) rfl rfl ?_ hroom fun _ => ?_⟩
    · rw [hrun, hr]
      simp only [addr_add, hst, Result.andThen_ok]
      rfl
    · simp [Ctx.wr, upd_same]
    · simp [Ctx.wr, upd_same]
  · -- a new block
    obtain ⟨olds, s1, s2, _, s4⟩ := hsr.src (P := P) (size := i.size) (.inr hbs)
    rw [hol] at s1 s2
    have hall' := s4.append hlr
    have hr := hx.grow (some a) len cap olds s1.cells (by omega) (by omega) (growslice_fits (by omega) hfit)
    have hge := grownCap_ge C.w (len + new.length) cap el
    have hcm := grownCap_le_maxLen C.w (len + new.length) cap el (by simp only [maxLen]; omega)
    let room := grownCap C.w (len + new.length) cap el
    let arr' := (olds ++ news ++ (Builtin.zeroCells z.cells (room - (len + new.length))).toList).toArray
    let w' := C.w.drew.alloc (.cells arr' el)
    have hasz : arr'.size = room * i.size := by
      simp only [arr']
      rw [List.size_toArray, List.length_append, List.length_append, s2, hlr.1, zero_len hzs, ← Nat.add_mul, ← Nat.add_mul]
      congr 1
      omega
    have hs : C.w.heap.size ≤ w'.heap.size := by simp [w']
    have hk : ∀ k, k < C.w.heap.size → k ≠ (C.β n).1 → w'.heap[k]? = C.w.heap[k]? := fun k hk _ => heap_alloc_old C.w.drew _ k hk
    let b' : Blk := { b with ep := ep + 1, es := (b.es.drop off).take len ++ new }
    have le := Ctx.wr_le g w' n C.w.heap.size 0 room b' b hg (.inr (Nat.le_refl _)) (by simp only [b']; omega) (fun h => by simp only [b'] at h; omega) rfl rfl rfl hs hk
    have gd := Ctx.wr_good g w' n C.w.heap.size 0 room b' b hg (.inr (Nat.le_refl _)) (by simp only [b']; omega) (fun h => by simp only [b'] at h; omega) rfl rfl rfl hs hk (by
      have er : ER C ((b.es.drop off).take len ++ new) i.size 0 arr' := hall'.er (fun k hk => by rw [Nat.zero_add, List.getElem?_toArray, List.getElem?_append_left hk])
      have hβ : (C.wr w' n C.w.heap.size 0 room b').β n = (C.w.heap.size, 0, room) := by simp only [Ctx.wr, upd_same]
      have hw' : (C.wr w' n C.w.heap.size 0 room b').w = w' := rfl
      generalize C.wr w' n C.w.heap.size 0 room b' = C' at hβ hw' le ⊢
      unfold BR
      simp only [b', hit, hβ, hw']
      refine ⟨arr', (0, 0), ?_, fun k _ => by omega, ?_, ?_, ?_, ?_, fun p q hp hq => ?_⟩
      · rw [hbe]
        exact heap_alloc_new C.w.drew _
      · simp only [Nat.zero_add, hbs]
        exact hasz
      · rw [hesl]
        exact hge
      · exact hcm
      · intro p hp
        rw [hbs]
        exact er.1 p hp
      · obtain ⟨c, c1, c2, c3⟩ := er.2 p q hp (by rw [hbs] at hq; exact hq)
        refine ⟨c, ?_, c2, c3.mono le⟩
        rw [hbs]
        exact c1)
    refine ⟨_, .slice (some ⟨C.w.heap.size, 0, none⟩) (len + new.length) room, le, gd, rfl, rfl, .inl ?_, .os_mk gd (b := b') (by simp [Ctx.wr, upd_same, b']) rfl rfl ?_ hge fun _ => ?_⟩
    · rw [hrun, hr]
      rfl
    · simp [Ctx.wr, upd_same]
    · simp [Ctx.wr, upd_same]

end
end Go.Am

namespace Go.Am

section
variable {E : Env} {C : Ctx} {o : Oper} {ρ : Operand → AV} {ev : Operand → Value} {rd : List Nat} {k : List Blk → Option Eff} {bs : List Blk} {ef : Eff}

/-- What stands behind an append's second argument. -/
def Apps (P : Program) (C : Ctx) (t t' ty e : TypeId) (i : TypeInfo) (z u : Value) (es : List (List AV)) : Prop :=
  ∃ news, App P C.w t t' ty e i z u es.length news ∧ news.length = es.length * i.size ∧ (∀ u ∈ news, u.oneCell' = true) ∧ LR C es i.size news
def SX (P : Program) (C : Ctx) (t t' ty : TypeId) (x : AV) (u : Value) : Prop :=
  ∀ (e : TypeId) (i : TypeInfo) (z : Value), P.underlying t = some (.slice e) → P.info? e = some i → i.zero = some z → z.cells.size = i.size → z.cells.toList.all plain = true →
    (∀ sz es, x = .sl sz es → (es = [] ∨ sz = i.size) → Apps P C t t' ty e i z u es) ∧
    ((∀ sz es, x ≠ .sl sz es) → VR C x u ∧ ∀ es sz, SR C es u sz → (es = [] ∨ sz = i.size) → Apps P C t t' ty e i z u es)
theorem SX.of {P : Program} {t t' ty : TypeId} {x : AV} {u : Value} (h : VR C x u) (hd' : ∃ e', P.underlying t' = some (.slice e')) : SX P C t t' ty x u := by
  intro e i z ht hi hz _ _
  have key : ∀ es sz, SR C es u sz → (es = [] ∨ sz = i.size) → Apps P C t t' ty e i z u es := fun es sz hs hsz => by
    obtain ⟨news, h1, h2, h3, h4⟩ := hs.src (P := P) hsz
    exact ⟨news, App.of_src ht (.inl hd') hi hz h1, h2, h3, h4⟩
  exact ⟨fun sz es e1 hsz => by subst e1; exact key es sz h.sl_inv.sl_sr.1 hsz, fun _ => ⟨h, key⟩⟩
theorem SX.zero {P : Program} {t t' ty : TypeId} {k k' : IntKind} {l : Int} {size bytes : Nat} {zs : List AV} {e0 : TypeId} (hu : P.underlying t = some (.slice e0)) (hd' : P.underlying t' = some (.int k)) (hs : infoSize P e0 = some size) (hb : infoBytes P e0 = some bytes) (hz : zeroCells P e0 = some zs)
    (h0 : 0 ≤ l) (h1 : l ≤ roomMax) (h2 : (bytes : Int) * l ≤ roomMax) : SX P C t t' ty (.sl size (List.replicate l.toNat zs)) (.int k' l) := by
  intro e i z ht hi hzz hzs hall
  rw [hu] at ht
  cases ht
  obtain ⟨i', hi', rfl⟩ := infoBytes_ok hb
  rw [hi] at hi'
  cases hi'
  obtain ⟨i'', z', hi'', hz', _, rfl⟩ := zeroCells_ok hz
  rw [hi] at hi''
  cases hi''
  rw [hzz] at hz'
  cases hz'
  simp only [roomMax] at h1 h2
  refine ⟨fun sz es e1 _ => ?_, fun h => absurd rfl (h _ _)⟩
  injection e1 with e2 e3
  subst e3
  have hlr := LR_zero (C := C) z hall l.toNat
  have hzl : (Builtin.zeroCells z.cells l.toNat).toList = (List.range (l.toNat * z.cells.size)).map fun i => z.cells[i % z.cells.size]! := by
    simp [Builtin.zeroCells]
  refine ⟨(Builtin.zeroCells z.cells l.toNat).toList, ?_, ?_, ?_, ?_⟩
  · rw [List.length_replicate]
    exact App.of_zero hu hd' hi hzz h0 (by omega) (by omega) hzs
  · rw [hzl, List.length_replicate, ← hzs]
    simp
  · intro u hu
    rw [hzl] at hu
    obtain ⟨m, hm, rfl⟩ := List.getElem_of_mem hu
    have hl : m < l.toNat * z.cells.size := by simpa using hm
    have hpos : 0 < z.cells.size := Nat.pos_of_ne_zero fun e => by rw [e] at hl; simp at hl
    have hi2 : m / z.cells.size < (List.replicate l.toNat (z.cells.toList.map AV.v)).length := by
      rw [List.length_replicate]
      exact Nat.div_lt_of_lt_mul (by rw [Nat.mul_comm]; exact hl)
    obtain ⟨v, a, b, _⟩ := hlr.2.2 _ (m % z.cells.size) hi2 (Nat.mod_lt _ hpos)
    have e : m / z.cells.size * z.cells.size + m % z.cells.size = m := by
      rw [Nat.mul_comm]
      exact Nat.div_add_mod m z.cells.size
    rw [e, List.getElem?_eq_getElem hm] at a
    injection a with a
    rw [a]
    exact b
  · rw [hzl, ← hzs]
    exact hlr
theorem SX.str {P : Program} {t t' ty : TypeId} (hd' : P.underlying t' = some .string) (s : ByteArray) : SX P C t t' ty (.sl 1 (s.data.toList.map fun b => [.v (.int .u8 b.toNat)])) (.string s) := by
  intro e i z ht hi hzz _ _
  refine ⟨fun sz es e1 hs => ?_, fun h => absurd rfl (h _ _)⟩
  injection e1 with e1 e2
  subst e1; subst e2
  suffices h : ∃ news, Src P C.w (.string s) i.size (s.data.toList.map fun b : UInt8 => [AV.v (.int .u8 b.toNat)]).length news ∧ news.length = (s.data.toList.map fun b : UInt8 => [AV.v (.int .u8 b.toNat)]).length * i.size ∧ (∀ u ∈ news, u.oneCell' = true) ∧ LR C (s.data.toList.map fun b : UInt8 => [AV.v (.int .u8 b.toNat)]) i.size news by
    obtain ⟨news, h1, h2, h3, h4⟩ := h
    exact ⟨news, App.of_src ht (.inr hd') hi hzz h1, h2, h3, h4⟩
  generalize i.size = size at hs ⊢
  have hlen : (s.data.toList.map fun b : UInt8 => [AV.v (.int .u8 b.toNat)]).length = s.size := by simp
  have hex : s.extract 0 s.size = s := by
    apply ByteArray.ext
    rw [ByteArray.data_extract]
    exact Array.extract_size
  refine ⟨s.data.toList.map fun b => .int .u8 b.toNat, ⟨fun w' => by rw [hlen]; rfl, fun w' _ => ?_⟩, ?_, fun u hu => ?_, ?_⟩
  · rw [hlen]
    simp only [Builtin.firstCells, hex, Sem.run_pure]
    congr 1
    apply Array.ext'
    simp
  · rcases hs with h | rfl
    · have hn := congrArg List.length h
      rw [List.length_map] at hn
      rw [h, List.length_map, hn]
      simp
    · simp
  · obtain ⟨b, _, rfl⟩ := List.mem_map.1 hu
    rfl
  · refine ⟨?_, fun i hi => ?_, fun i j hi hj => ?_⟩
    · rcases hs with h | rfl
      · have hn := congrArg List.length h
        rw [List.length_map] at hn
        rw [h, List.length_map, hn]
        simp
      · simp
    · have hi' : i < s.data.toList.length := by simpa using hi
      rcases hs with h | rfl
      · rw [h] at hi; simp at hi
      · simp only [List.getD_eq_getElem?_getD, List.getElem?_map, List.getElem?_eq_getElem hi']
        rfl
    · have hi' : i < s.data.toList.length := by simpa using hi
      rcases hs with h | rfl
      · rw [h] at hi; simp at hi
      · have : j = 0 := by omega
        subst this
        refine ⟨.int .u8 (s.data.toList[i]).toNat, ?_, rfl, ?_⟩
        · simp only [Nat.mul_one, Nat.add_zero, List.getElem?_map, List.getElem?_eq_getElem hi']
          rfl
        · simp only [List.getD_eq_getElem?_getD, List.getElem?_map, List.getElem?_eq_getElem hi']
          exact .fr (.v rfl)

theorem srd_sx {P : Program} (g : Good C) {t t' ty e : TypeId} {i : TypeInfo} {z : Value} {x : AV} {u : Value}
    (h : (∀ sz es, x = .sl sz es → (es = [] ∨ sz = i.size) → Apps P C t t' ty e i z u es) ∧ ((∀ sz es, x ≠ .sl sz es) → VR C x u ∧ ∀ es sz, SR C es u sz → (es = [] ∨ sz = i.size) → Apps P C t t' ty e i z u es))
    {kk : Nat → List (List AV) → Option Eff} (hp : srd x kk = .prim rd k) (hbs : rd.mapM C.get = some bs) (hk : k bs = some ef) :
    ∃ es sz, kk sz es = some ef ∧ ((es = [] ∨ sz = i.size) → Apps P C t t' ty e i z u es) := by
  by_cases hx : ∃ sz es, x = .sl sz es
  · obtain ⟨sz, es, rfl⟩ := hx
    unfold srd at hp
    obtain ⟨rfl, rfl⟩ := prim_inj hp
    exact ⟨es, sz, hk, h.1 sz es rfl⟩
  · have hv := h.2 (fun sz es e => hx ⟨sz, es, e⟩)
    obtain ⟨es, sz, h1, h2⟩ := srd_ok g hp hbs hk hv.1
    exact ⟨es, sz, h1, hv.2 es sz h2⟩

/-- Nothing is appended. -/
theorem append_none (g : Good C) {P : Program} {t t' e : TypeId} {i : TypeInfo} {z : Value} {s : AV} {v u : Value} (hx : Apps P C t t' o.type e i z u []) (hs : VR C s v)
    {a : Option Addr} {len cap : Nat} (hv : v = .slice a len cap) (hc : len ≤ cap)
    (hrun : (execOp ev o).run P C.w = ((Builtin.append_ #[t, t'] o.type #[v, u]).run P C.w).andThen fun a w' => .ok (.value a) w') : EffOK P C o ev (.none s) := by
  obtain ⟨news, h1, h2, _⟩ := hx
  have : news = [] := List.eq_nil_of_length_eq_zero (by simpa using h2)
  subst this
  refine .same g (v := v) ?_ hs
  rw [hrun, hv, h1.room a len cap (by simpa using hc)]
  cases a <;> simp [storeCells]

theorem ok_appendA (g : Good C) {t t' : TypeId} {s x : AV} {v u : Value} (hs : VR C s v) (hx : SX E.P C t t' o.type x u)
    (hrun : (execOp ev o).run E.P C.w = ((Builtin.append_ #[t, t'] o.type #[v, u]).run E.P C.w).andThen fun a w' => .ok (.value a) w')
    (hp : appendA E t s x = .prim rd k) (hbs : rd.mapM C.get = some bs) (hk : k bs = some ef) : EffOK E.P C o ev ef := by
  unfold appendA at hp
  split at hp
  · rename_i elem ht
    split at hp
    · rename_i bytes size z hby hsz hz
      split at hp
      · cases hp
      · rename_i hc
        obtain ⟨i, zv, hi, hzz, hall, rfl⟩ := zeroCells_ok hz
        obtain ⟨i', hi', rfl⟩ := infoBytes_ok hby
        obtain ⟨i'', hi'', rfl⟩ := infoSize_ok hsz
        rw [hi] at hi' hi''
        cases hi'
        cases hi''
        have hzs : zv.cells.size = i.size := by
          have : ¬ ((zv.cells.toList.map AV.v).length ≠ i.size) := fun h => hc (.inr (.inr h))
          simpa using this
        have hb : 0 < i.bytes := Nat.pos_of_ne_zero fun h => hc (.inr (.inl h))
        replace hx := hx elem i zv ht hi hzz hzs hall
        -- out of nothing
        have fresh : ∀ (a : Option Addr) (es : List (List AV)) (sz : Nat), v = .slice a 0 0 → ((es = [] ∨ sz = i.size) → Apps E.P C t t' o.type elem i zv u es) →
            (if es.isEmpty then some (Eff.none s) else if es.length * i.bytes ≤ roomMax ∧ sz = i.size then some (.new { elem, sz := i.size, ep := 0, es } fun n => .os n 0 0 es.length) else none) = some ef → EffOK E.P C o ev ef := by
          intro a es sz hv h he
          split at he
          · rename_i hem
            simp only [Option.some.injEq] at he
            subst he
            have : es = [] := by simpa using hem
            subst this
            exact append_none g (h (.inl rfl)) hs hv (Nat.le_refl _) hrun
          · rename_i hem
            split at he
            · rename_i hfit
              simp only [Option.some.injEq] at he
              subst he
              obtain ⟨news, h1, h2, h3, h4⟩ := h (.inr hfit.2)
              exact append_fresh g hzs hb h1 h4 a hv (by simpa using hem) hfit.1 hrun
            · cases he
        -- onto an owned block
        have onto : ∀ (n e off len : Nat) (b : Blk) (es : List (List AV)) (sz : Nat), s = .os n e off len → C.get n = some b → ((es = [] ∨ sz = i.size) → Apps E.P C t t' o.type elem i zv u es) →
            (if b.ep = e ∧ b.it.isNone ∧ off + len ≤ b.es.length ∧ b.sz = i.size ∧ b.elem = elem then
              if es.isEmpty then some (Eff.none (.os n e off len)) else if (len + es.length) * i.bytes ≤ roomMax ∧ sz = i.size then some (.set n { b with ep := e + 1, es := (b.es.drop off).take len ++ es } (.os n (e + 1) 0 (len + es.length))) else none
            else none) = some ef → EffOK E.P C o ev ef := by
          intro n e off len b es sz hse hg h he
          subst hse
          split at he
          · rename_i hcond
            obtain ⟨c1, c2, c3, c4, c5⟩ := hcond
            obtain ⟨a, cap, hv, hcap, hlc, _⟩ := hs.os_inv hg c1
            split at he
            · rename_i hem
              simp only [Option.some.injEq] at he
              subst he
              have : es = [] := by simpa using hem
              subst this
              exact append_none g (h (.inl rfl)) hs hv hlc hrun
            · rename_i hem
              split at he
              · rename_i hfit
                simp only [Option.some.injEq] at he
                subst he
                obtain ⟨news, h1, h2, h3, h4⟩ := h (.inr hfit.2)
                exact append_onto g hzs hb h1 h3 h4 hs hg c1 (isNone_eq c2) c3 c4 c5 (by simpa using hem) hfit.1 hrun
              · cases he
          · cases he
        have none_at : (x = .e0 ∨ x = .v (.slice none 0 0) ∨ ∃ sz, x = .sl sz []) → Apps E.P C t t' o.type elem i zv u [] := by
          intro hc
          rcases hc with rfl | rfl | ⟨sz, rfl⟩
          · have := hx.2 (by simp)
            exact this.2 [] i.size (e0_sr this.1 i.size) (.inl rfl)
          · have := hx.2 (by simp)
            exact this.2 [] i.size (nil_sr this.1 i.size) (.inl rfl)
          · exact hx.1 sz [] rfl (.inl rfl)
        simp only at hp
        split at hp
        · obtain ⟨a, hv⟩ := hs.e0_inv
          obtain ⟨es, sz, h1, h2⟩ := srd_sx g hx hp hbs hk
          exact fresh (some a) es sz hv h2 h1
        · obtain ⟨es, sz, h1, h2⟩ := srd_sx g hx hp hbs hk
          exact fresh none es sz hs.v_inv.1 h2 h1
        · obtain rfl := val_ok hp hk
          obtain ⟨a, b, o', cap, hv, hlc, _⟩ := hs.sl_inv.sl_sr.1
          exact append_none g (none_at (.inr (.inr ⟨_, rfl⟩))) hs hv hlc hrun
        · obtain rfl := val_ok hp hk
          obtain ⟨a, b, o', cap, hv, hlc, _⟩ := hs.sl_inv.sl_sr.1
          exact append_none g (none_at (.inl rfl)) hs hv hlc hrun
        · obtain rfl := val_ok hp hk
          obtain ⟨a, b, o', cap, hv, hlc, _⟩ := hs.sl_inv.sl_sr.1
          exact append_none g (none_at (.inr (.inl rfl))) hs hv hlc hrun
        · rename_i n e off len m e' off' len'
          obtain ⟨rfl, rfl⟩ := prim_inj hp
          obtain ⟨b, c, hb, hcm, rfl⟩ := mapM_two hbs
          simp only at hk
          split at hk
          · cases hk
          · cases he : sliceElems c e' off' len' with
            | none => rw [he] at hk; cases hk
            | some es =>
              rw [he] at hk
              have hv := hx.2 (by simp)
              exact onto n e off len b es c.sz rfl hb (hv.2 es c.sz (os_sr g hv.1 hcm he).1) hk
        · rename_i n e off len sz new
          obtain ⟨rfl, rfl⟩ := prim_inj hp
          obtain ⟨b, hb, rfl⟩ := mapM_one hbs
          exact onto n e off len b new sz rfl hb (hx.1 sz new rfl) hk
        · rename_i n e off len
          obtain ⟨rfl, rfl⟩ := prim_inj hp
          obtain ⟨b, hb, rfl⟩ := mapM_one hbs
          exact onto n e off len b [] 0 rfl hb (fun _ => none_at (.inl rfl)) hk
        · rename_i n e off len
          obtain ⟨rfl, rfl⟩ := prim_inj hp
          obtain ⟨b, hb, rfl⟩ := mapM_one hbs
          exact onto n e off len b [] 0 rfl hb (fun _ => none_at (.inr (.inl rfl))) hk
        · cases hp
    · cases hp
  · cases hp

theorem ok_append (g : Good C) (hρ : ∀ x, VR C (ρ x) (ev x)) {c : Call} (ho : o.op = .call c) (hc : c.callee = .builtin .append) (hp : plan E o ρ = .prim rd k) (hbs : rd.mapM C.get = some bs) (hk : k bs = some ef) : EffOK E.P C o ev ef := by
  have hrun : ∀ (t t' : TypeId) (v u : Value), c.argTypes = #[t, t'] → c.args.map ev = #[v, u] → (execOp ev o).run E.P C.w = ((Builtin.append_ #[t, t'] o.type #[v, u]).run E.P C.w).andThen fun a w' => .ok (.value a) w' := by
    intro t t' v u h1 h2
    rw [exec_builtin ho hc, h1, h2]
    simp only [builtin, Sem.run_bind]
    rfl
  simp only [plan, ho, hc] at hp
  unfold builtinA at hp
  split at hp
  · rename_i heq _ _; cases heq
  · rename_i heq _ _; cases heq
  · rename_i heq _ _; cases heq
  · rename_i heq _ _; cases heq
  · rename_i s x t t' _ ha ht
    obtain ⟨v, u, hvu, hs, hx⟩ := args_two hρ ha
    have hts := types_two ht
    split at hp
    · rename_i htt
      subst htt
      have hsl : ∃ e, E.P.underlying t = some (.slice e) := by
        unfold appendA at hp
        split at hp
        · rename_i elem hu; exact ⟨elem, hu⟩
        · cases hp
      exact ok_appendA g (t' := t) hs (SX.of hx hsl) (hrun t t v u hts hvu) hp hbs hk
    · split at hp
      · rename_i e kk kv l hu hu'
        split at hp
        · rename_i size bytes zs h1 h2 h3
          split at hp
          · rename_i hc
            have := hx.v_inv.1
            subst this
            exact ok_appendA g hs (SX.zero hu hu' h1 h2 h3 hc.1 hc.2.1 hc.2.2.1) (hrun t t' v _ hts hvu) hp hbs hk
          · cases hp
        · cases hp
      · rename_i e str hu hu'
        split at hp
        · have := hx.v_inv.1
          subst this
          exact ok_appendA g hs (SX.str hu' str) (hrun t t' v _ hts hvu) hp hbs hk
        · cases hp
      · cases hp
  · rename_i heq _ _; cases heq
  · rename_i heq; cases heq
  · rename_i heq; cases heq
  · cases hp

end
end Go.Am

namespace Go.Am

theorem SR.first {P : Program} {C : Ctx} {es : List (List AV)} {v : Value} {sz size : Nat} (h : SR C es v sz) (hs : es = [] ∨ sz = size) {m : Nat} (hm : m ≤ es.length) :
    ∃ news, (Builtin.firstCells size m v).run P C.w = .ok news.toArray C.w ∧ (∀ u ∈ news, u.oneCell' = true) ∧ LR C (es.take m) size news := by
  obtain ⟨a, cap, vs, rfl, _, _, hlr, h1, hc⟩ := h.vals
  rcases hs with rfl | rfl
  · have : m = 0 := by simpa using hm
    subst this
    refine ⟨[], ?_, by simp, ⟨by simp, fun i hi => by simp at hi, fun i j hi => by simp at hi⟩⟩
    cases a <;> simp [Builtin.firstCells, loadCells, loadCellsFrom]
  · have hl : (vs.take (m * sz)).length = m * sz := by
      rw [List.length_take, hlr.1]
      exact Nat.min_eq_left (Nat.mul_le_mul_right _ hm)
    have hlt : (es.take m).length = m := by simp [hm]
    refine ⟨vs.take (m * sz), ?_, fun u hu => h1 u (List.mem_of_mem_take hu), ⟨by rw [hl, hlt], fun i hi => ?_, fun i j hi hj => ?_⟩⟩
    · by_cases hne : es = []
      · subst hne
        have : m = 0 := by simpa using hm
        subst this
        cases a <;> simp [Builtin.firstCells, loadCells, loadCellsFrom]
      · obtain ⟨b, o, rfl, hcell⟩ := hc hne
        exact run_firstCells_some C.w sz m ⟨b, o, none⟩ es.length cap _ hl (fun j u hj => by
          rw [addr_add]
          refine hcell j u ?_
          rw [List.getElem?_take] at hj
          split at hj
          · exact hj
          · cases hj)
    · rw [hlt] at hi
      rw [getD_take, if_pos hi]
      exact hlr.2.1 i (by omega)
    · rw [hlt] at hi
      obtain ⟨c, a1, b1, c1⟩ := hlr.2.2 i j (by omega) hj
      refine ⟨c, ?_, b1, by rw [getD_take, if_pos hi]; exact c1⟩
      rw [List.getElem?_take, if_pos (idx_lt hi hj)]
      exact a1

theorem overE_length (es : List (List AV)) (off : Nat) (new : List (List AV)) (h : off + new.length ≤ es.length) : (overE es off new).length = es.length := by
  simp [overE]
  omega
theorem overE_get (es : List (List AV)) (off : Nat) (new : List (List AV)) (h : off + new.length ≤ es.length) (k : Nat) : (overE es off new).getD k [] = if off ≤ k ∧ k < off + new.length then new.getD (k - off) [] else es.getD k [] := by
  unfold overE
  rw [getD_append, getD_append, getD_take, getD_drop]
  simp only [List.length_append, List.length_take, Nat.min_eq_left (show off ≤ es.length by omega)]
  by_cases h1 : k < off
  · rw [if_pos (by omega), if_pos h1, if_pos h1, if_neg (by omega)]
  · by_cases h2 : k < off + new.length
    · rw [if_pos h2, if_neg h1, if_pos (by omega)]
    · rw [if_neg h2, if_neg (by omega)]
      congr 1
      omega

theorem ER.overE {C : Ctx} {es fs : List (List AV)} {sz o : Nat} {cs : Array Value} {us : List Value} (h : ER C es sz o cs) (hf : LR C fs sz us) {off : Nat} (ho : off + fs.length ≤ es.length) (hroom : o + es.length * sz ≤ cs.size) :
    ER C (overE es off fs) sz o (overV cs (o + off * sz) us) := by
  refine ⟨fun i hi => ?_, fun i j hi hj => ?_⟩
  · rw [overE_length _ _ _ ho] at hi
    rw [overE_get _ _ _ ho]
    split
    · exact hf.2.1 _ (by omega)
    · exact h.1 i hi
  · rw [overE_length _ _ _ ho] at hi
    have hlt : o + i * sz + j < cs.size := by have := idx_lt hi hj; omega
    rw [overV_get? _ _ _ _ hlt, overE_get _ _ _ ho]
    by_cases hc : off ≤ i ∧ i < off + fs.length
    · rw [if_pos hc]
      obtain ⟨v, a, b, c⟩ := hf.2.2 (i - off) j (by omega) hj
      have e1 : off * sz ≤ i * sz := Nat.mul_le_mul_right _ hc.1
      have e2 : (i + 1) * sz ≤ (off + fs.length) * sz := Nat.mul_le_mul_right _ (by omega)
      rw [Nat.add_mul, Nat.add_mul] at e2
      have e3 : (i - off) * sz = i * sz - off * sz := Nat.sub_mul ..
      have hin : o + off * sz ≤ o + i * sz + j ∧ o + i * sz + j < o + off * sz + us.length := by rw [hf.1]; omega
      rw [if_pos hin]
      refine ⟨v, ?_, b, c⟩
      rw [show o + i * sz + j - (o + off * sz) = (i - off) * sz + j by omega, List.getD_eq_getElem?_getD, a]
      rfl
    · rw [if_neg hc]
      have hnin : ¬ (o + off * sz ≤ o + i * sz + j ∧ o + i * sz + j < o + off * sz + us.length) := by
        rw [hf.1]
        intro hh
        rcases Nat.lt_or_ge i off with h1 | h1
        · have : (i + 1) * sz ≤ off * sz := Nat.mul_le_mul_right _ h1
          rw [Nat.add_mul] at this
          omega
        · have h2 : off + fs.length ≤ i := by omega
          have : (off + fs.length) * sz ≤ i * sz := Nat.mul_le_mul_right _ h2
          rw [Nat.add_mul] at this
          omega
      rw [if_neg hnin]
      obtain ⟨v, a, b, c⟩ := h.2 i j hi hj
      exact ⟨v, by rw [Array.getD_eq_getD_getElem?, a]; rfl, b, c⟩

section
variable {E : Env} {C : Ctx} {o : Oper} {ρ : Operand → AV} {ev : Operand → Value} {rd : List Nat} {k : List Blk → Option Eff} {bs : List Blk} {ef : Eff}

theorem ok_copy (g : Good C) (hρ : ∀ x, VR C (ρ x) (ev x)) {c : Call} (ho : o.op = .call c) (hc : c.callee = .builtin .copy) (hp : plan E o ρ = .prim rd k) (hbs : rd.mapM C.get = some bs) (hk : k bs = some ef) : EffOK E.P C o ev ef := by
  simp only [plan, ho, hc] at hp
  unfold builtinA at hp
  split at hp
  · rename_i heq _ _; cases heq
  · rename_i heq _ _; cases heq
  · rename_i heq _ _; cases heq
  · rename_i heq _ _; cases heq
  · rename_i heq _ _; cases heq
  · rename_i d x t t' _ ha ht
    obtain ⟨v, u, hvu, hd, hx⟩ := args_two hρ ha
    have hts := types_two ht
    unfold copyA at hp
    split at hp
    · rename_i elem n e off len hu
      split at hp
      · cases hp
      · rename_i size hsz
        have go : ∀ (b : Blk) (sz : Nat) (es : List (List AV)) (szs : Nat), C.get n = some b → SR C es u szs → (es = [] ∨ szs = sz) →
            (if b.ep = e ∧ b.it.isNone ∧ off + len ≤ b.es.length ∧ b.sz = size ∧ (es.isEmpty ∨ sz = size) then some (Eff.set n { b with es := overE b.es off (es.take (min es.length len)) } (.v (.int .i64 (min es.length len : Nat)))) else none) = some ef → EffOK E.P C o ev ef := by
          intro b sz es szs hg hsr hss he
          split at he
          · rename_i hcond
            obtain ⟨c1, c2, c3, c4, c5⟩ := hcond
            simp only [Option.some.injEq] at he
            subst he
            have hse : es = [] ∨ szs = size := by
              rcases c5 with h | h
              · exact .inl (by simpa using h)
              · rcases hss with h' | h'
                · exact .inl h'
                · exact .inr (h'.trans h)
            obtain ⟨a, cap, hv, hcap, hlc, hpa⟩ := hd.os_inv hg c1
            obtain ⟨arr, fr, r1, r2, r3, r4, r5, r6⟩ := row_of g hg (isNone_eq c2)
            let m := min es.length len
            have hm1 : m ≤ es.length := Nat.min_le_left _ _
            have hm2 : m ≤ len := Nat.min_le_right _ _
            obtain ⟨news, f1, f2, f3⟩ := hsr.first (P := E.P) hse hm1
            have htl : (es.take m).length = m := by simp [hm1]
            have hfl : off + (es.take m).length ≤ b.es.length := by omega
            have hroom : (C.β n).2.1 + b.es.length * b.sz ≤ arr.size := by have := Nat.mul_le_mul_right b.sz r4; omega
            have hnl : news.length = m * size := by rw [f3.1, htl]
            have er := r6.overE (by rw [c4]; exact f3) (off := off) hfl hroom
            have hin : (C.β n).2.1 + off * b.sz + news.length ≤ arr.size := by
              have : (off + m) * b.sz ≤ b.es.length * b.sz := Nat.mul_le_mul_right _ (by omega)
              rw [Nat.add_mul] at this
              rw [hnl, ← c4]
              omega
            have hlen : ∀ w', (Builtin.lenOf u).run E.P w' = .ok es.length w' := fun w' => by
              obtain ⟨a', b', o', cap', rfl, _⟩ := hsr
              rfl
            have fin : ∀ w', w'.heap = C.w.heap.setIfInBounds (C.β n).1 (.cells (overV arr ((C.β n).2.1 + off * b.sz) news) b.elem fr) → w'.os = C.w.os → w'.tape = C.w.tape → w'.output = C.w.output →
                (execOp ev o).run E.P C.w = .ok (.value (.int .i64 (m : Nat))) w' → EffOK E.P C o ev (.set n { b with es := overE b.es off (es.take m) } (.v (.int .i64 (m : Nat)))) := by
              intro w' w1 w2 w3 w4 hr nm _
              obtain ⟨le, gd⟩ := write_row g hg (isNone_eq c2) (w' := w') (overE b.es off (es.take m)) (overE_length _ _ _ hfl) (overV arr ((C.β n).2.1 + off * b.sz) news) fr w2 w3 w4 (by rw [overV_size]; exact r2) w1 (by rw [overV_size]; exact r3) r4 r5 er
              exact ⟨_, _, le, gd, rfl, rfl, .inl hr, .fr (.v rfl)⟩
            have hex : ∀ (base : Option Addr), v = .slice base len cap → (execOp ev o).run E.P C.w =
                (((match base with | some a => storeCells a news | none => pure () : Sem Unit)).run E.P C.w).andThen fun _ w' => .ok (.value (.int .i64 (m : Nat))) w' := by
              intro base hb
              rw [exec_builtin ho hc, hts, hvu, hb]
              have hmin : Nat.min es.length len = m := rfl
              cases base with
              | none => simp [builtin, Builtin.copy_, run_underlying hu, hlen, run_sizeOf' hsz, hmin, f1, goInt]
              | some ad =>
                simp [builtin, Builtin.copy_, run_underlying hu, hlen, run_sizeOf' hsz, hmin, f1, goInt]
                generalize (storeCells ad news).run E.P C.w = r
                cases r <;> rfl
            by_cases hm0 : m = 0
            · have hn0 : news = [] := List.eq_nil_of_length_eq_zero (by rw [hnl, hm0]; simp)
              refine fin C.w ?_ rfl rfl rfl ?_
              · rw [hn0]
                exact (set_self _ _ _ r1).symm
              · rw [hex a hv, hn0]
                cases a <;> rfl
            · have hpos : 0 < cap := by omega
              have hpa' := hpa hpos
              subst hpa'
              obtain ⟨w', hst, w1, w2, w3, w4⟩ := run_storeCells E.P (C.β n).1 ((C.β n).2.1 + off * b.sz) b.elem fr news 0 C.w arr r1 r2 (by simpa using hin) f2
              refine fin w' (by simpa using w1) w2 w3 w4 ?_
              rw [hex _ hv]
              simp only [hst, Result.andThen_ok]
          · cases he
        split at hp
        · rename_i m e' off' len'
          split at hp
          · rename_i hnm
            obtain ⟨rfl, rfl⟩ := prim_inj hp
            obtain ⟨b, hb, rfl⟩ := mapM_one hbs
            simp only at hk
            cases he : sliceElems b e' off' len' with
            | none => rw [he] at hk; cases hk
            | some es =>
              rw [he] at hk
              subst hnm
              exact go b b.sz es b.sz hb (os_sr g hx hb he).1 (.inr rfl) hk
          · obtain ⟨rfl, rfl⟩ := prim_inj hp
            obtain ⟨b, c', hb, hcm, rfl⟩ := mapM_two hbs
            simp only at hk
            cases he : sliceElems c' e' off' len' with
            | none => rw [he] at hk; cases hk
            | some es =>
              rw [he] at hk
              exact go b c'.sz es c'.sz hb (os_sr g hx hcm he).1 (.inr rfl) hk
        · rename_i sz new
          obtain ⟨rfl, rfl⟩ := prim_inj hp
          obtain ⟨b, hb, rfl⟩ := mapM_one hbs
          exact go b sz new sz hb hx.sl_inv.sl_sr.1 (.inr rfl) hk
        · obtain ⟨rfl, rfl⟩ := prim_inj hp
          obtain ⟨b, hb, rfl⟩ := mapM_one hbs
          exact go b 0 [] 0 hb (e0_sr hx 0) (.inl rfl) hk
        · obtain ⟨rfl, rfl⟩ := prim_inj hp
          obtain ⟨b, hb, rfl⟩ := mapM_one hbs
          exact go b 0 [] 0 hb (nil_sr hx 0) (.inl rfl) hk
        · cases hp
    · cases hp
  · rename_i heq; cases heq
  · rename_i heq; cases heq
  · cases hp

/-- ALL PRIMITIVE OPERATIONS. -/
theorem prim_ok (hE : EnvOK E) (g : Good C) (hρ : ∀ x, VR C (ρ x) (ev x)) (hp : plan E o ρ = .prim rd k) (hbs : rd.mapM C.get = some bs) (hk : k bs = some ef) : EffOK E.P C o ev ef := by
  cases ho : o.op with
  | move x => exact ok_move g hρ (.inl ho) (by simpa only [plan, ho] using hp) hk
  | assign x => exact ok_move g hρ (.inr ho) (by simpa only [plan, ho] using hp) hk
  | pick c a b => exact ok_pick g hρ ho hp hk
  | alloc t => exact ok_alloc g ho hp hk
  | box t x => exact ok_box g hρ ho hp hk
  | build t ps => exact ok_build g hρ ho hp hk
  | buildSlice t l ps => exact ok_buildSlice g hρ ho hp hk
  | load t a => exact ok_load g hρ ho hp hbs hk
  | store t a x => exact ok_store g hρ ho hp hbs hk
  | nilCheck x => exact ok_nilCheck g hρ ho hp hbs hk
  | binOp op t x y yt => exact ok_binOp hE g hρ ho hp hbs hk
  | unOp op t x => exact ok_unOp g hρ ho hp hk
  | convert s d x => exact ok_convert g hρ ho hp hbs hk
  | makeFunc f a b => exact ok_makeFunc g hρ ho hp hk
  | makeSlice t l c => exact ok_makeSlice g hρ ho hp hk
  | slice t x lo hi mx => exact ok_slice g hρ ho hp hbs hk
  | fieldAddr s x f => exact ok_fieldAddr g hρ ho hp hbs hk
  | field s x f => exact ok_field g hρ ho hp hk
  | indexAddr t x i => exact ok_indexAddr g hρ ho hp hbs hk
  | index t x i => exact ok_index g hρ ho hp hk
  | extract t i => exact ok_extract g hρ ho hp hk
  | range t x => exact ok_range g hρ ho hp hk
  | next it s =>
    cases s with
    | true => exact ok_next g hρ ho hp hbs hk
    | false => simp [plan, ho] at hp
  | call c =>
    cases hc : c.callee with
    | builtin b =>
      by_cases h1 : b = .append
      · subst h1; exact ok_append g hρ ho hc hp hbs hk
      · by_cases h2 : b = .copy
        · subst h2; exact ok_copy g hρ ho hc hp hbs hk
        · exact ok_len_cap g hρ ho hc ⟨h1, h2⟩ hp hbs hk
    | value f =>
      simp only [plan, ho, hc] at hp
      split at hp <;> cases hp
    | invoke r m => simp [plan, ho, hc] at hp
  | _ => simp [plan, ho] at hp

end
end Go.Am
