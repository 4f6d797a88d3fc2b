/- Slots; operands; guards. -/
import Derived.Test.YtoeemmlfcnokiaaGreatAmOps11
set_option linter.all false
set_option linter.deprecated false
namespace Go.Am

theorem getR_eq {α : Type} (d : α) (l : List α) (n : Nat) : getR d l n = l.getD n d := by
  induction l generalizing n with
  | nil => rfl
  | cons h t ih => cases n with
    | zero => rfl
    | succ n =>
      have : getR d (h :: t) (n + 1) = getR d t n := rfl
      rw [this, ih, List.getD_cons_succ]
theorem setR_eq {α R : Type} (x : α) (l : List α) (n : Nat) (k : List α → Option R) : setR x l n k = if n < l.length then k (l.set n x) else none := by
  induction l generalizing n k with
  | nil => rfl
  | cons h t ih => cases n with
    | zero => rfl
    | succ n =>
      have : setR x (h :: t) (n + 1) k = setR x t n fun t => k (h :: t) := rfl
      rw [this, ih]
      simp

theorem Slots.set_ok {R : Type} {s : Slots} {t : Nat} {x : AV} {k : Slots → Option R} {r : R} (h : s.set t x k = some r) :
    ∃ s', k s' = some r ∧ s'.n = s.n ∧ ∀ u, s'.get u = if t < s.n ∧ u = t then x else s.get u := by
  obtain ⟨n, c⟩ := s
  simp only [Slots.set] at h
  split at h
  · rename_i hb
    have hlt : t < n := by simpa using hb
    simp only [setR_eq, getR_eq] at h
    split at h
    · rename_i h1
      split at h
      · rename_i h2
        refine ⟨_, h, rfl, fun u => ?_⟩
        simp only [Slots.get, getR_eq]
        by_cases hu : u = t
        · subst hu
          rw [if_pos ⟨hlt, rfl⟩]
          have e1 : (c.set (u / 8) ((c.getD (u / 8) []).set (u % 8) x)).getD (u / 8) [] = (c.getD (u / 8) []).set (u % 8) x := by
            rw [List.getD_eq_getElem?_getD, List.getElem?_set_self h2]
            rfl
          rw [e1, List.getD_eq_getElem?_getD, List.getElem?_set_self h1]
          rfl
        · rw [if_neg (by simp [hu])]
          by_cases h8 : u / 8 = t / 8
          · have hm : u % 8 ≠ t % 8 := by omega
            simp [List.getD_eq_getElem?_getD, List.getElem?_set, h8, h2, Ne.symm hm]
          · simp [List.getD_eq_getElem?_getD, List.getElem?_set, Ne.symm h8]
      · cases h
    · cases h
  · rename_i hb
    have hlt : ¬ t < n := by
      intro h
      have : Nat.blt t n = true := by simpa using h
      rw [this] at hb
      cases hb
    exact ⟨_, h, rfl, fun u => by simp [hlt]⟩

theorem row8_eq {R : Type} (l : List AV) (k : List AV → List AV → R) : ∃ row r, row8 l k = k row r ∧ (∀ i, i < 8 → row.getD i (.tup []) = l.getD i (.tup [])) ∧ row.length = 8 ∧ r = l.drop 8 := by
  unfold row8
  dsimp only
  split <;> refine ⟨_, _, rfl, ?_, rfl, ?_⟩ <;> first
    | rfl
    | (intro i hi; rcases i with _ | _ | _ | _ | _ | _ | _ | _ | i <;> first | rfl | omega)
theorem rows8_eq {R : Type} (m : Nat) (l : List AV) (k : List (List AV) → R) : ∃ c, rows8 m l k = k c ∧ ∀ t, (c.getD (t / 8) []).getD (t % 8) (.tup []) = if t < m * 8 then l.getD t (.tup []) else .tup [] := by
  induction m generalizing l k with
  | zero => exact ⟨[], rfl, fun t => by simp⟩
  | succ m ih =>
    obtain ⟨row, r, h1, h2, h3, rfl⟩ := row8_eq l fun row l => rows8 m l fun c => k (row :: c)
    obtain ⟨c, h4, h5⟩ := ih (l.drop 8) fun c => k (row :: c)
    refine ⟨row :: c, by rw [rows8, h1, h4], fun t => ?_⟩
    by_cases ht : t < 8
    · have e1 : t / 8 = 0 := by omega
      have e2 : t % 8 = t := by omega
      rw [e1, e2, List.getD_cons_zero, h2 t ht, if_pos (by omega)]
    · have e1 : t / 8 = (t - 8) / 8 + 1 := by omega
      have e2 : t % 8 = (t - 8) % 8 := by omega
      rw [e1, e2, List.getD_cons_succ, h5 (t - 8), getD_drop]
      by_cases hm : t < (m + 1) * 8
      · rw [if_pos (by omega), if_pos hm]
        congr 1
        omega
      · rw [if_neg (by omega), if_neg hm]
theorem Slots.mk'_eq {R : Type} (n : Nat) (args : List AV) (ha : args.length ≤ n) (k : Slots → R) : ∃ s : Slots, Slots.mk' n args k = k s ∧ s.n = n ∧ ∀ t, s.get t = args.getD t (.tup []) := by
  obtain ⟨c, h1, h2⟩ := rows8_eq ((n + 7) / 8) args fun c => k ⟨n, c⟩
  refine ⟨⟨n, c⟩, h1, rfl, fun t => ?_⟩
  simp only [Slots.get, getR_eq, h2]
  split
  · rfl
  · rw [List.getD_eq_getElem?_getD, List.getElem?_eq_none (by omega)]
    rfl

/-- The slots. -/
def TR (C : Ctx) (tm : Slots) (a : Array Value) : Prop := tm.n = a.size ∧ ∀ t, VR C (tm.get t) (a.getD t undef)
theorem TR.mono {C C' : Ctx} (k : Le C C') {tm : Slots} {a : Array Value} (h : TR C tm a) : TR C' tm a := ⟨h.1, fun t => (h.2 t).mono k⟩
theorem TR.set {C : Ctx} {tm tm' : Slots} {a : Array Value} (h : TR C tm a) {d : Nat} {x : AV} {v : Value} (hv : VR C x v) (hn : tm'.n = tm.n) (hg : ∀ u, tm'.get u = if d < tm.n ∧ u = d then x else tm.get u) :
    TR C tm' (a.setIfInBounds d v) := by
  refine ⟨by rw [hn, h.1]; simp, fun t => ?_⟩
  rw [hg t]
  by_cases hd : d < tm.n ∧ t = d
  · obtain ⟨h1, rfl⟩ := hd
    have : t < a.size := h.1 ▸ h1
    rw [if_pos ⟨h1, rfl⟩]
    simpa [Array.getD, this] using hv
  · rw [if_neg hd]
    have e : (a.setIfInBounds d v).getD t undef = a.getD t undef := by
      simp only [Array.getD_eq_getD_getElem?, Array.getElem?_setIfInBounds]
      split
      · rename_i h1
        subst h1
        rw [if_neg (by rw [← h.1]; exact fun hl => hd ⟨hl, rfl⟩)]
        rw [Array.getElem?_eq_none (by rw [← h.1]; exact Nat.le_of_not_lt fun hl => hd ⟨hl, rfl⟩)]
      · rfl
    rw [e]
    exact h.2 t

theorem ofCell_rel (C : Ctx) (x : Value) : VR C (ofCell x) x := by
  unfold ofCell
  split
  · rename_i f first caps
    split
    · rename_i h
      obtain ⟨h1, h2⟩ := h
      have e1 : first = #[] := Array.eq_empty_of_size_eq_zero h1
      have e2 : caps = #[] := Array.eq_empty_of_size_eq_zero h2
      subst e1 e2
      exact .fn f #[] rfl (by simp)
    · exact .fr (.dead _)
  · split
    · rename_i h
      exact .fr (.v h)
    · exact .fr (.dead _)
theorem ofVal_rel (C : Ctx) (x : Value) : VR C (ofVal x) x := by
  unfold ofVal
  split
  · rename_i cs
    split
    · rename_i h
      have h1 : ∀ i, i < cs.toList.length → (cs.getD i undef).oneCell' = true := fun i hi => by
        have hi' : i < cs.size := by simpa using hi
        have := List.all_eq_true.1 h (cs[i]) (by simp)
        simpa [Array.getD, hi'] using this
      refine .agg cs (by simp) (fun i hi => h1 i (by simpa using hi)) fun i hi => ?_
      have hi' : i < cs.size := by simpa using hi
      have e : (cs.toList.map ofCell).getD i .dead = ofCell (cs.getD i undef) := by
        simp [List.getD_eq_getElem?_getD, Array.getD, hi']
      rw [e]
      exact ofCell_rel C _
    · exact .fr (.dead _)
  · exact ofCell_rel C _

/-- An operand, by the slots that it names. -/
theorem aev_rel {C : Ctx} {tm : Slots} {a : Act} (x : Operand) (h : ∀ t, x = .tmp t → VR C (tm.get t) (a.tmps.getD t undef)) : VR C (aev tm x) (a.eval x) := by
  cases x with
  | tmp t => exact h t rfl
  | const v => exact ofVal_rel C v
  | global g => exact .fr (.dead _)
  | func f => exact .fn f #[] rfl (by simp)

theorem wanted_rel {C : Ctx} {ops : Array Oper} {o : Oper} {tm : Slots} {a : Act} {b : Bool} (h : wantedA o ops.toList tm = some b)
    (hs : ∀ t, t ∈ namesOp ops.toList o → VR C (tm.get t) (a.tmps.getD t undef)) : Region.wanted o (yielded ops a.tmps) = b := by
  unfold wantedA at h
  unfold Region.wanted
  cases hg : o.guard with
  | none => rw [hg] at h; simpa using h
  | some gw =>
    obtain ⟨j, want⟩ := gw
    rw [hg] at h
    simp only at h ⊢
    have ej : (ops.toList[j]?) = ops[j]? := by simp
    unfold yielded
    rw [ej] at h
    cases hd : (ops[j]?).bind (·.dst) with
    | none => rw [hd] at h; simp at h; subst h; simp
    | some t =>
      rw [hd] at h
      simp only [Option.bind_some] at h ⊢
      have hv := hs t (by simp [namesOp, hg, hd])
      have e2 : ∀ x : Value, a.tmps.getD t undef = x → x ≠ undef → a.tmps[t]? = some x := by
        intro x hx hne
        rw [Array.getD_eq_getD_getElem?] at hx
        cases ht : a.tmps[t]? with
        | none => rw [ht] at hx; exact absurd hx.symm hne
        | some y => rw [ht] at hx; simp at hx; rw [hx]
      split at h
      · rename_i b' hb
        rw [hb] at hv
        obtain ⟨hv, _⟩ := hv.v_inv
        rw [e2 _ hv (by simp [undef])]
        simp only [Option.some.injEq] at h
        subst h
        rfl
      · rename_i hb
        rw [hb] at hv
        obtain ⟨vs, hv, hl, _⟩ := hv.tup_inv
        simp only [Option.some.injEq] at h
        subst h
        rw [Array.getD_eq_getD_getElem?] at hv
        cases ht : a.tmps[t]? with
        | none => simp
        | some y => rw [ht] at hv; simp at hv; subst hv; simp
      · cases h

theorem plan_congr {E : Env} {o : Oper} {ρ ρ' : Operand → AV} (h : ∀ x ∈ o.op.operands, ρ x = ρ' x) : plan E o ρ = plan E o ρ' := by
  obtain ⟨dst, op, type, pos, after, guard⟩ := o
  have pairs : ∀ ps : Array (Nat × Operand), (∀ x ∈ ps.map (·.2), ρ x = ρ' x) → (ps.toList.map fun p => (p.1, ρ p.2)) = (ps.toList.map fun p => (p.1, ρ' p.2)) := fun ps hp =>
    List.map_congr_left fun p hm => by
      obtain ⟨i, x⟩ := p
      simp only [hp x (Array.mem_map.2 ⟨(i, x), by simpa using hm, rfl⟩)]
  cases op <;> simp only [Op.operands] at h <;> simp only [plan]
  case build t ps => rw [pairs ps fun x hx => h x (by simpa using hx)]
  case buildSlice t n ps => rw [pairs ps fun x hx => h x (by simpa using hx)]
  case makeFunc fn first captured =>
    rw [List.map_congr_left (l := captured.toList) fun x hx => h x (by simp at hx; simp [hx])]
  case call c =>
    have ha : c.args.toList.map ρ = c.args.toList.map ρ' := List.map_congr_left fun x hx => h x (by simp at hx; simp [Call.operands, hx])
    rw [ha]
    cases hc : c.callee with
    | value f => have hf : ρ f = ρ' f := h f (by simp [Call.operands, hc]); simp only [hf]
    | invoke r m => rfl
    | builtin b => rfl
  case slice t x lo hi mx => cases lo <;> cases hi <;> cases mx <;> simp_all
  case next it b => cases b <;> simp_all
  all_goals (first | rfl | (simp_all; done))

end Go.Am
