/- Parts of the proof: AmRun1 AmRun2 AmRun3 AmRun4 AmRun5 AmRun6 AmRun7. -/
import Derived.Test.YtmcimfmibpfnhaaGreatAmOps11
import Derived.RangeFuncLeaves
import Derived.RangeFuncRecord
set_option linter.all false
set_option linter.deprecated false

namespace Go.Am

theorem getR_eq {α : Type} (d : α) (l : List α) (n : Nat) : getR d l n = l.getD n d := by
  induction l generalizing n with
  | nil => rfl
  | cons h t ih => cases n with
    | zero => rfl
    | succ n =>
      have : getR d (h :: t) (n + 1) = getR d t n := rfl
      rw [this, ih, List.getD_cons_succ]
theorem setR_eq {α R : Type} (x : α) (l : List α) (n : Nat) (k : List α → Option R) : setR x l n k = if n < l.length then k (l.set n x) else none := by
  induction l generalizing n k with
  | nil => rfl
  | cons h t ih => cases n with
    | zero => rfl
    | succ n =>
      have : setR x (h :: t) (n + 1) k = setR x t n fun t => k (h :: t) := rfl
      rw [this, ih]
      simp

theorem Slots.set_ok {R : Type} {s : Slots} {t : Nat} {x : AV} {k : Slots → Option R} {r : R} (h : s.set t x k = some r) :
    ∃ s', k s' = some r ∧ s'.n = s.n ∧ ∀ u, s'.get u = if t < s.n ∧ u = t then x else s.get u := by
  obtain ⟨n, c⟩ := s
  simp only [Slots.set] at h
  split at h
  · rename_i hb
    have hlt : t < n := by simpa using hb
    simp only [setR_eq, getR_eq] at h
    split at h
    · rename_i h1
      split at h
      · rename_i h2
        refine ⟨_, h, rfl, fun u => ?_⟩
        simp only [Slots.get, getR_eq]
        by_cases hu : u = t
        · subst hu
          rw [if_pos ⟨hlt, rfl⟩]
          have e1 : (c.set (u / 8) ((c.getD (u / 8) []).set (u % 8) x)).getD (u / 8) [] = (c.getD (u / 8) []).set (u % 8) x := by
            rw [List.getD_eq_getElem?_getD, List.getElem?_set_self h2]
            rfl
          rw [e1, List.getD_eq_getElem?_getD, List.getElem?_set_self h1]
          rfl
        · rw [if_neg (by simp [hu])]
          by_cases h8 : u / 8 = t / 8
          · have hm : u % 8 ≠ t % 8 := by omega
            simp [List.getD_eq_getElem?_getD, List.getElem?_set, h8, h2, Ne.symm hm]
          · simp [List.getD_eq_getElem?_getD, List.getElem?_set, Ne.symm h8]
      · cases h
    · cases h
  · rename_i hb
    have hlt : ¬ t < n := by
      intro h
      have : Nat.blt t n = true := by simpa using h
      rw [this] at hb
      cases hb
    exact ⟨_, h, rfl, fun u => by simp [hlt]⟩

theorem row8_eq {R : Type} (l : List AV) (k : List AV → List AV → R) : ∃ row r, row8 l k = k row r ∧ (∀ i, i < 8 → row.getD i (.tup []) = l.getD i (.tup [])) ∧ row.length = 8 ∧ r = l.drop 8 := by
  unfold row8
  dsimp only
  split <;> refine ⟨_, _, rfl, ?_, rfl, ?_⟩ <;> first
    | rfl
    | (intro i hi; rcases i with _ | _ | _ | _ | _ | _ | _ | _ | i <;> first | rfl | omega)
theorem rows8_eq {R : Type} (m : Nat) (l : List AV) (k : List (List AV) → R) : ∃ c, rows8 m l k = k c ∧ ∀ t, (c.getD (t / 8) []).getD (t % 8) (.tup []) = if t < m * 8 then l.getD t (.tup []) else .tup [] := by
  induction m generalizing l k with
  | zero => exact ⟨[], rfl, fun t => by simp⟩
  | succ m ih =>
    obtain ⟨row, r, h1, h2, h3, rfl⟩ := row8_eq l fun row l => rows8 m l fun c => k (row :: c)
    obtain ⟨c, h4, h5⟩ := ih (l.drop 8) fun c => k (row :: c)
    refine ⟨row :: c, by rw [rows8, h1, h4], fun t => ?_⟩
    by_cases ht : t < 8
    · have e1 : t / 8 = 0 := by omega
      have e2 : t % 8 = t := by omega
      rw [e1, e2, List.getD_cons_zero, h2 t ht, if_pos (by omega)]
    · have e1 : t / 8 = (t - 8) / 8 + 1 := by omega
      have e2 : t % 8 = (t - 8) % 8 := by omega
      rw [e1, e2, List.getD_cons_succ, h5 (t - 8), getD_drop]
      by_cases hm : t < (m + 1) * 8
      · rw [if_pos (by omega), if_pos hm]
        congr 1
        omega
      · rw [if_neg (by omega), if_neg hm]
theorem Slots.mk'_eq {R : Type} (n : Nat) (args : List AV) (ha : args.length ≤ n) (k : Slots → R) : ∃ s : Slots, Slots.mk' n args k = k s ∧ s.n = n ∧ ∀ t, s.get t = args.getD t (.tup []) := by
  obtain ⟨c, h1, h2⟩ := rows8_eq ((n + 7) / 8) args fun c => k ⟨n, c⟩
  refine ⟨⟨n, c⟩, h1, rfl, fun t => ?_⟩
  simp only [Slots.get, getR_eq, h2]
  split
  · rfl
  · rw [List.getD_eq_getElem?_getD, List.getElem?_eq_none (by omega)]
    rfl

/-- The slots. -/
def TR (C : Ctx) (tm : Slots) (a : Array Value) : Prop := tm.n = a.size ∧ ∀ t, VR C (tm.get t) (a.getD t undef)
theorem TR.mono {C C' : Ctx} (k : Le C C') {tm : Slots} {a : Array Value} (h : TR C tm a) : TR C' tm a := ⟨h.1, fun t => (h.2 t).mono k⟩
theorem TR.set {C : Ctx} {tm tm' : Slots} {a : Array Value} (h : TR C tm a) {d : Nat} {x : AV} {v : Value} (hv : VR C x v) (hn : tm'.n = tm.n) (hg : ∀ u, tm'.get u = if d < tm.n ∧ u = d then x else tm.get u) :
    TR C tm' (a.setIfInBounds d v) := by
  refine ⟨by rw [hn, h.1]; simp, fun t => ?_⟩
  rw [hg t]
  by_cases hd : d < tm.n ∧ t = d
  · obtain ⟨h1, rfl⟩ := hd
    have : t < a.size := h.1 ▸ h1
    rw [if_pos ⟨h1, rfl⟩]
    simpa [Array.getD, this] using hv
  · rw [if_neg hd]
    have e : (a.setIfInBounds d v).getD t undef = a.getD t undef := by
      simp only [Array.getD_eq_getD_getElem?, Array.getElem?_setIfInBounds]
      split
      · rename_i h1
        subst h1
        rw [if_neg (by rw [← h.1]; exact fun hl => hd ⟨hl, rfl⟩)]
        rw [Array.getElem?_eq_none (by rw [← h.1]; exact Nat.le_of_not_lt fun hl => hd ⟨hl, rfl⟩)]
      · rfl
    rw [e]
    exact h.2 t

theorem ofCell_rel (C : Ctx) (x : Value) : VR C (ofCell x) x := by
  unfold ofCell
  split
  · rename_i f first caps
    split
    · rename_i h
      obtain ⟨h1, h2⟩ := h
      have e1 : first = #[] := Array.eq_empty_of_size_eq_zero h1
      have e2 : caps = #[] := Array.eq_empty_of_size_eq_zero h2
      subst e1 e2
      exact .fn f #[] rfl (by simp)
    · exact .fr (.dead _)
  · split
    · rename_i h
      exact .fr (.v h)
    · exact .fr (.dead _)
theorem ofVal_rel (C : Ctx) (x : Value) : VR C (ofVal x) x := by
  unfold ofVal
  split
  · rename_i cs
    split
    · rename_i h
      have h1 : ∀ i, i < cs.toList.length → (cs.getD i undef).oneCell' = true := fun i hi => by
        have hi' : i < cs.size := by simpa using hi
        have := List.all_eq_true.1 h (cs[i]) (by simp)
        simpa [Array.getD, hi'] using this
      refine .agg cs (by simp) (fun i hi => h1 i (by simpa using hi)) fun i hi => ?_
      have hi' : i < cs.size := by simpa using hi
      have e : (cs.toList.map ofCell).getD i .dead = ofCell (cs.getD i undef) := by
        simp [List.getD_eq_getElem?_getD, Array.getD, hi']
      rw [e]
      exact ofCell_rel C _
    · exact .fr (.dead _)
  · exact ofCell_rel C _

/-- An operand, by the slots that it names. -/
theorem aev_rel {C : Ctx} {tm : Slots} {a : Act} (x : Operand) (h : ∀ t, x = .tmp t → VR C (tm.get t) (a.tmps.getD t undef)) : VR C (aev tm x) (a.eval x) := by
  cases x with
  | tmp t => exact h t rfl
  | const v => exact ofVal_rel C v
  | global g => exact .fr (.dead _)
  | func f => exact .fn f #[] rfl (by simp)

theorem wanted_rel {C : Ctx} {ops : Array Oper} {o : Oper} {tm : Slots} {a : Act} {b : Bool} (h : wantedA o ops.toList tm = some b)
    (hs : ∀ t, t ∈ namesOp ops.toList o → VR C (tm.get t) (a.tmps.getD t undef)) : Region.wanted o (yielded ops a.tmps) = b := by
  unfold wantedA at h
  unfold Region.wanted
  cases hg : o.guard with
  | none => rw [hg] at h; simpa using h
  | some gw =>
    obtain ⟨j, want⟩ := gw
    rw [hg] at h
    simp only at h ⊢
    have ej : (ops.toList[j]?) = ops[j]? := by simp
    unfold yielded
    rw [ej] at h
    cases hd : (ops[j]?).bind (·.dst) with
    | none => rw [hd] at h; simp at h; subst h; simp
    | some t =>
      rw [hd] at h
      simp only [Option.bind_some] at h ⊢
      have hv := hs t (by simp [namesOp, hg, hd])
      have e2 : ∀ x : Value, a.tmps.getD t undef = x → x ≠ undef → a.tmps[t]? = some x := by
        intro x hx hne
        rw [Array.getD_eq_getD_getElem?] at hx
        cases ht : a.tmps[t]? with
        | none => rw [ht] at hx; exact absurd hx.symm hne
        | some y => rw [ht] at hx; simp at hx; rw [hx]
      split at h
      · rename_i b' hb
        rw [hb] at hv
        obtain ⟨hv, _⟩ := hv.v_inv
        rw [e2 _ hv (by simp [undef])]
        simp only [Option.some.injEq] at h
        subst h
        rfl
      · rename_i hb
        rw [hb] at hv
        obtain ⟨vs, hv, hl, _⟩ := hv.tup_inv
        simp only [Option.some.injEq] at h
        subst h
        rw [Array.getD_eq_getD_getElem?] at hv
        cases ht : a.tmps[t]? with
        | none => simp
        | some y => rw [ht] at hv; simp at hv; subst hv; simp
      · cases h

theorem plan_congr {E : Env} {o : Oper} {ρ ρ' : Operand → AV} (h : ∀ x ∈ o.op.operands, ρ x = ρ' x) : plan E o ρ = plan E o ρ' := by
  obtain ⟨dst, op, type, pos, after, guard⟩ := o
  have pairs : ∀ ps : Array (Nat × Operand), (∀ x ∈ ps.map (·.2), ρ x = ρ' x) → (ps.toList.map fun p => (p.1, ρ p.2)) = (ps.toList.map fun p => (p.1, ρ' p.2)) := fun ps hp =>
    List.map_congr_left fun p hm => by
      obtain ⟨i, x⟩ := p
      simp only [hp x (Array.mem_map.2 ⟨(i, x), by simpa using hm, rfl⟩)]
  cases op <;> simp only [Op.operands] at h <;> simp only [plan]
  case build t ps => rw [pairs ps fun x hx => h x (by simpa using hx)]
  case buildSlice t n ps => rw [pairs ps fun x hx => h x (by simpa using hx)]
  case makeFunc fn first captured =>
    rw [List.map_congr_left (l := captured.toList) fun x hx => h x (by simp at hx; simp [hx])]
  case call c =>
    have ha : c.args.toList.map ρ = c.args.toList.map ρ' := List.map_congr_left fun x hx => h x (by simp at hx; simp [Call.operands, hx])
    rw [ha]
    cases hc : c.callee with
    | value f => have hf : ρ f = ρ' f := h f (by simp [Call.operands, hc]); simp only [hf]
    | invoke r m => rfl
    | builtin b => rfl
  case slice t x lo hi mx => cases lo <;> cases hi <;> cases mx <;> simp_all
  case next it b => cases b <;> simp_all
  all_goals (first | rfl | (simp_all; done))

end Go.Am

namespace Go.Am

theorem FR.weak {w : World} {av av' : Nat → Prop} (hk : ∀ b, av' b → av b) {x : AV} {v : Value} (h : FR w av x v) : FR w av' x v :=
  h.mono (fun b _ hn => ⟨rfl, fun h' => hn (hk b h')⟩) (Nat.le_refl _)

section
variable {C1 : Ctx} {av : Nat → Prop} {H : AHeap} {bad : Nat → Bool}

theorem frz_rel (g : Good C1) (hget : ∀ n, C1.get n = H.get n) (hav : ∀ b, av b → C1.av b) (hfree : ∀ n b, C1.get n = some b → bad n = false → ¬ av (C1.β n).1) (d : Nat) :
    ∀ {x : AV} {v : Value}, VR C1 x v → FR C1.w av (frz H bad d x) v := by
  induction d with
  | zero => intro x v _; exact .dead v
  | succ d ih =>
    intro x v h
    have one : ∀ (cs : List AV) (i : Nat), i < cs.length → (cs.map (frz H bad d)).getD i .dead = frz H bad d (cs.getD i .dead) := fun cs i hi => by
      simp [List.getD_eq_getElem?_getD, hi]
    cases x with
    | v x => obtain ⟨rfl, hp⟩ := h.v_inv; exact .v hp
    | sl sz es => exact h.sl_inv.weak hav
    | e0 => obtain ⟨a, rfl⟩ := h.e0_inv; exact .e0 a
    | fp cs => exact h.fp_inv.weak hav
    | agg cs =>
      obtain ⟨vs, rfl, hl, h1, hr⟩ := h.agg_inv
      exact .agg vs (by simpa using hl) (fun i hi => h1 i (by simpa using hi)) fun i hi => by
        rw [one cs i (by simpa using hi)]; exact ih (hr i (by simpa using hi))
    | tup cs =>
      obtain ⟨vs, rfl, hl, hr⟩ := h.tup_inv
      exact .tup vs (by simpa using hl) fun i hi => by
        rw [one cs i (by simpa using hi)]; exact ih (hr i (by simpa using hi))
    | fn f cs =>
      obtain ⟨vs, rfl, hl, hr⟩ := h.fn_inv
      exact .fn f vs (by simpa using hl) fun i hi => by
        rw [one cs i (by simpa using hi)]; exact ih (hr i (by simpa using hi))
    | yl k => exact .dead v
    | dead => exact .dead v
    | os n e off len =>
      simp only [frz]
      split
      · exact .dead v
      · rename_i hbad
        split
        · rename_i b hb
          split
          · rename_i hc
            obtain ⟨he, hit, hlen, hsz⟩ := hc
            have hg : C1.get n = some b := (hget n).trans hb
            obtain ⟨a, cap, rfl, hcap, hl, ha⟩ := h.os_inv hg he
            obtain ⟨cs, fr, h1, h2, h3, h4, h5, h6⟩ := row_of g hg (isNone_eq hit)
            have hL : (((b.es.drop off).take len).map fun c => c.map (frz H bad d)).length = len := by simp; omega
            have hrow : ∀ i, i < len → (((b.es.drop off).take len).map fun c => c.map (frz H bad d)).getD i [] = (b.es.getD (off + i) []).map (frz H bad d) := fun i hi => by
              simp [List.getD_eq_getElem?_getD, List.getElem?_take, hi]
              cases b.es[off + i]? <;> rfl
            have key := FR.sl (w := C1.w) (av := av) (sz := b.sz) (es := ((b.es.drop off).take len).map fun c => c.map (frz H bad d)) a (C1.β n).1 ((C1.β n).2.1 + off * b.sz) cap (fun i j => cs.getD ((C1.β n).2.1 + (off + i) * b.sz + j) undef)
              (fun hne => ?_) (by rw [hL]; exact hl) (by omega) (fun i hi => ?_) (fun i j hi hj => ?_) (fun i j hi hj => ?_) (fun i j hi hj => ?_)
            · rw [hL] at key; exact key
            · have : 0 < (((b.es.drop off).take len).map fun c => c.map (frz H bad d)).length := List.length_pos_iff.2 hne
              rw [hL] at this
              exact ⟨ha (by omega), hsz, hfree n b hg (by simpa using hbad)⟩
            · rw [hL] at hi
              rw [hrow i hi, List.length_map, h6.1 _ (by omega)]
            · rw [hL] at hi
              obtain ⟨c, e1, e2, e3⟩ := h6.2 (off + i) j (by omega) hj
              have e4 : cs.getD ((C1.β n).2.1 + (off + i) * b.sz + j) undef = c := by simp [Array.getD_eq_getD_getElem?, e1]
              rw [e4, cell_of_row C1.w _ _ cs b.elem fr h1, ← e1]
              congr 1
              rw [Nat.add_mul]
              omega
            · rw [hL] at hi
              obtain ⟨c, e1, e2, e3⟩ := h6.2 (off + i) j (by omega) hj
              simpa [Array.getD_eq_getD_getElem?, e1] using e2
            · rw [hL] at hi
              obtain ⟨c, e1, e2, e3⟩ := h6.2 (off + i) j (by omega) hj
              rw [hrow i hi, one _ _ (by rw [h6.1 _ (by omega)]; exact hj)]
              have e4 : cs.getD ((C1.β n).2.1 + (off + i) * b.sz + j) undef = c := by simp [Array.getD_eq_getD_getElem?, e1]
              rw [e4]
              exact ih e3
          · exact .dead v
        · exact .dead v
    | op n e i j =>
      simp only [frz]
      split
      · exact .dead v
      · rename_i hbad
        split
        · rename_i b hb
          split
          · rename_i hc
            obtain ⟨he, hit, hi, hj⟩ := hc
            have hg : C1.get n = some b := (hget n).trans hb
            have := h.op_inv hg he
            subst this
            obtain ⟨hl, hcell⟩ := owned_cells g hg hit hi (Nat.le_of_lt hj)
            refine .fp _ _ (fun m => (C1.w.cell? ⟨(C1.β n).1, (C1.β n).2.1 + i * b.sz + j + m, none⟩).getD undef) (hfree n b hg (by simpa using hbad)) (g.lt hg) (fun m hm => ?_) (fun m hm => ?_) fun m hm => ?_
            · rw [List.length_map] at hm
              obtain ⟨c, e1, e2, e3⟩ := hcell m hm
              rw [e1]; rfl
            · rw [List.length_map] at hm
              obtain ⟨c, e1, e2, e3⟩ := hcell m hm
              rw [e1]; exact e2
            · rw [List.length_map] at hm
              obtain ⟨c, e1, e2, e3⟩ := hcell m hm
              rw [e1, one _ _ hm]
              exact ih e3
          · exact .dead v
        · exact .dead v
end

theorem idxN_ok {T : List Nat} {n k i : Nat} (h : idxN T n i = some k) : i ≤ k ∧ T[k - i]? = some n := by
  induction T generalizing i with
  | nil => simp [idxN] at h
  | cons m r ih =>
    simp only [idxN] at h
    split at h
    · rename_i hm
      simp only [Option.some.injEq] at h
      subst h hm
      simp
    · obtain ⟨h1, h2⟩ := ih h
      refine ⟨by omega, ?_⟩
      rw [show k - i = (k - (i + 1)) + 1 by omega, List.getElem?_cons_succ]
      exact h2
theorem nodupN_ok {T : List Nat} (h : nodupN T = true) : T.Nodup := by
  induction T with
  | nil => exact .nil
  | cons n r ih =>
    simp only [nodupN, Bool.and_eq_true, Bool.not_eq_true', List.any_eq_false, Nat.beq_eq_true_eq] at h
    refine List.nodup_cons.2 ⟨fun hm => ?_, ih h.2⟩
    have := h.1 n hm
    simp at this
theorem badN_ok {lo : Nat} {T : List Nat} {n : Nat} (h : badN lo T n = false) : lo ≤ n ∧ n ∉ T := by
  simp only [badN, Bool.or_eq_false_iff, List.any_eq_false, Nat.beq_eq_true_eq] at h
  refine ⟨?_, fun hm => ?_⟩
  · have := h.1
    rw [← Bool.not_eq_true, Nat.blt_eq] at this
    omega
  · have := h.2 n hm
    simp at this

end Go.Am

namespace Go.Am

theorem blksA_ok {H : AHeap} {lo base : Nat} {T : List Nat} {d : Nat} {l : List Nat} {bs : List Blk} (h : blksA H lo base T d l = some bs) :
    bs.length = l.length ∧ ∀ (k n : Nat), l[k]? = some n → ∃ b : Blk, H.get n = some b ∧ bs[k]? = some { b with ep := 0, es := b.es.map fun cs => cs.map (renC H lo base T d) } := by
  induction l generalizing bs with
  | nil => simp only [blksA, Option.some.injEq] at h; subst h; exact ⟨rfl, fun k n h => by simp at h⟩
  | cons m r ih =>
    simp only [blksA] at h
    cases hm : H.get m with
    | none => rw [hm] at h; cases h
    | some b =>
      rw [hm] at h
      simp only at h
      cases hr : blksA H lo base T d r with
      | none => rw [hr] at h; cases h
      | some rs =>
        rw [hr] at h
        simp only [Option.map_some, Option.some.injEq] at h
        subst h
        obtain ⟨h1, h2⟩ := ih hr
        refine ⟨by simp [h1], fun k n hk => ?_⟩
        cases k with
        | zero => simp at hk; subst hk; exact ⟨b, hm, by simp⟩
        | succ k => exact h2 k n (by simpa using hk)

theorem pushAll_next (G : AHeap) (bs : List Blk) : (pushAll G bs).next = G.next + bs.length ∧ (pushAll G bs).js = G.js := by
  induction bs generalizing G with
  | nil => exact ⟨rfl, rfl⟩
  | cons b r ih => simp only [pushAll]; rw [(ih _).1, (ih _).2]; simp only [AHeap.push, List.length_cons]; exact ⟨by omega, trivial⟩
theorem push_get (G : AHeap) (b : Blk) (n : Nat) : (G.push b).get n = if n = G.next then some b else G.get n := by
  simp only [AHeap.push, AHeap.get, look]
  by_cases h : G.next = n
  · rw [if_pos h, if_pos h.symm]
  · rw [if_neg h, if_neg (fun e => h e.symm)]
theorem pushAll_get (G : AHeap) (bs : List Blk) (n : Nat) : (pushAll G bs).get n = if G.next ≤ n ∧ n < G.next + bs.length then bs[n - G.next]? else G.get n := by
  induction bs generalizing G with
  | nil => simp only [pushAll, List.length_nil]; rw [if_neg (by omega)]
  | cons b r ih =>
    simp only [pushAll]
    rw [ih, push_get]
    have hn : (G.push b).next = G.next + 1 := rfl
    rw [hn]
    by_cases h0 : n = G.next
    · subst h0
      rw [if_neg (by omega), if_pos rfl, if_pos (by simp)]
      simp
    · by_cases h1 : G.next + 1 ≤ n ∧ n < G.next + 1 + r.length
      · rw [if_pos h1, if_pos (by simp only [List.length_cons]; omega), show n - G.next = (n - (G.next + 1)) + 1 by omega, List.getElem?_cons_succ]
      · rw [if_neg h1, if_neg h0, if_neg (by simp only [List.length_cons]; omega)]

/-- From a caller's context to the one at its callee's end: what is needed to come back. Names below lo are the caller's. -/
structure Back (C C1 : Ctx) (lo : Nat) : Prop where
  os : C1.w.os = C.w.os
  tape : C1.w.tape = C.w.tape
  output : C1.w.output = C.w.output
  size : C.w.heap.size ≤ C1.w.heap.size
  xkeep : ∀ b, C.X b → C1.w.heap[b]? = C.w.heap[b]?
  keep : ∀ b, b < C.w.heap.size → ¬ C.av b → C1.w.heap[b]? = C.w.heap[b]? ∧ ¬ C1.av b
  av : ∀ b, C.av b → C1.av b ∧ ∀ n blk, lo ≤ n → C1.get n = some blk → (C1.β n).1 ≠ b
  low : ∀ n b, n < lo → C.get n = some b → C1.get n = some b ∧ C1.β n = C.β n
  born : ∀ n, n < lo → C.born n
  blk : ∀ n b, C.get n = some b → C1.w.heap[(C.β n).1]? = C.w.heap[(C.β n).1]? ∨ (n < lo ∧ (∀ m, C.born m → m < lo) ∧ ∀ (k : Nat) x, C.lp[k]? = some x → C1.lp[k]? = some x)
  lp : ∀ (k l : Nat) (r : Loop) (s : LS), C.lp[k]? = some (l, r) → C.js[k]? = some s → LoopAt C1.w l r s

def inT (base : Nat) (T : List Nat) (n : Nat) : Prop := base ≤ n ∧ n < base + T.length
instance (base : Nat) (T : List Nat) (n : Nat) : Decidable (inT base T n) := inferInstanceAs (Decidable (_ ∧ _))

def Ctx.back (C C1 : Ctx) (base : Nat) (T : List Nat) (bs : List Blk) : Ctx :=
  { C with w := C1.w, β := fun n => if inT base T n then C1.β (T.getD (n - base) 0) else C.β n,
           get := fun n => if inT base T n then bs[n - base]? else C.get n, born := fun n => C.born n ∨ inT base T n }

section
variable {C C1 : Ctx} {H : AHeap} {lo base d : Nat} {T : List Nat} {bs : List Blk}

theorem back_in (hb : blksA H lo base T d T = some bs) {n : Nat} (h : inT base T n) : ∃ (m : Nat) (b : Blk), T[n - base]? = some m ∧ T.getD (n - base) 0 = m ∧ H.get m = some b ∧ bs[n - base]? = some { b with ep := 0, es := b.es.map fun cs => cs.map (renC H lo base T d) } := by
  have hlt : n - base < T.length := by unfold inT at h; omega
  obtain ⟨_, h2⟩ := blksA_ok hb
  obtain ⟨b, h3, h4⟩ := h2 _ _ (List.getElem?_eq_getElem hlt)
  exact ⟨_, b, List.getElem?_eq_getElem hlt, by simp [List.getD_eq_getElem?_getD, hlt], h3, h4⟩

theorem back_av (g1 : Good C1) (B : Back C C1 lo) (hget : ∀ n, C1.get n = H.get n) (hb : blksA H lo base T d T = some bs) (b : Nat) (h : (C.back C1 base T bs).av b) :
    C.av b ∨ ∃ (n m : Nat) (blk : Blk), inT base T n ∧ T[n - base]? = some m ∧ C1.get m = some blk ∧ (C1.β m).1 = b := by
  rcases h with h | ⟨n, blk, h1, h2⟩
  · exact .inl (.inl h)
  · simp only [Ctx.back] at h1 h2
    by_cases hn : inT base T n
    · obtain ⟨m, b', e1, e2, e3, e4⟩ := back_in hb hn
      rw [if_pos hn] at h2
      rw [e2] at h2
      exact .inr ⟨n, m, b', hn, e1, (hget m).trans e3, h2⟩
    · rw [if_neg hn] at h1 h2
      exact .inl (.inr ⟨n, blk, h1, h2⟩)

theorem back_sub (g1 : Good C1) (B : Back C C1 lo) (hget : ∀ n, C1.get n = H.get n) (hb : blksA H lo base T d T = some bs) (b : Nat) (h : (C.back C1 base T bs).av b) : C1.av b := by
  rcases back_av g1 B hget hb b h with h | ⟨n, m, blk, _, _, h1, h2⟩
  · exact (B.av b h).1
  · exact .inr ⟨m, blk, h1, h2⟩

theorem back_free (g1 : Good C1) (B : Back C C1 lo) (hget : ∀ n, C1.get n = H.get n) (hb : blksA H lo base T d T = some bs) (n : Nat) (blk : Blk) (hn : C1.get n = some blk) (hbad : badN lo T n = false) :
    ¬ (C.back C1 base T bs).av (C1.β n).1 := by
  obtain ⟨h1, h2⟩ := badN_ok hbad
  intro h
  rcases back_av g1 B hget hb _ h with h | ⟨k, m, blk', _, e1, e2, e3⟩
  · exact (B.av _ h).2 n blk h1 hn rfl
  · have := g1.inj m n blk' blk e2 hn e3
    subst this
    exact h2 (List.mem_of_getElem? e1)

theorem renC_rel (g1 : Good C1) (B : Back C C1 lo) (hget : ∀ n, C1.get n = H.get n) (hb : blksA H lo base T d T = some bs) (hnew : ∀ n, inT base T n → ¬ C.born n) (d' : Nat)
    {x : AV} {v : Value} (h : VR C1 x v) : VR (C.back C1 base T bs) (renC H lo base T d' x) v := by
  have hf : ∀ {x : AV} {v : Value}, VR C1 x v → VR (C.back C1 base T bs) (frz H (badN lo T) d' x) v := fun h =>
    .fr (frz_rel (av := (C.back C1 base T bs).av) g1 hget (back_sub g1 B hget hb) (back_free g1 B hget hb) d' h)
  have hlow : ∀ n, n < lo → (C.back C1 base T bs).get n = C.get n ∧ (C.back C1 base T bs).β n = C.β n ∧ (C.back C1 base T bs).born n := fun n hn => by
    have : ¬ inT base T n := fun h => hnew n h (B.born n hn)
    simp only [Ctx.back, if_neg this]
    exact ⟨trivial, trivial, .inl (B.born n hn)⟩
  have hT : ∀ n k b, idxN T n 0 = some k → H.get n = some b → inT base T (base + k) ∧ (C.back C1 base T bs).β (base + k) = C1.β n ∧ (C.back C1 base T bs).get (base + k) = some { b with ep := 0, es := b.es.map fun cs => cs.map (renC H lo base T d) } := fun n k b hk hbn => by
    obtain ⟨_, h2⟩ := idxN_ok hk
    rw [Nat.sub_zero] at h2
    have hlt : k < T.length := (List.getElem?_eq_some_iff.1 h2).1
    have hin : inT base T (base + k) := by unfold inT; omega
    obtain ⟨m, b', e1, e2, e3, e4⟩ := back_in hb hin
    rw [show base + k - base = k by omega] at e1 e2 e4
    rw [h2] at e1
    cases e1
    rw [hbn] at e3
    cases e3
    simp only [Ctx.back, if_pos hin]
    rw [show base + k - base = k by omega]
    exact ⟨hin, by rw [e2], e4⟩
  cases x with
  | os n e off len =>
    simp only [renC]
    split
    · rename_i hn
      obtain ⟨l1, l2, l3⟩ := hlow n hn
      cases h with
      | fr h => cases h
      | os _ _ _ _ _ hb' h1 he h =>
        refine .os n e off len v l3 h1 (fun b hg => ?_) fun b hg hep => ?_
        · rw [l1] at hg
          exact he b (B.low n b hn hg).1
        · rw [l1] at hg
          obtain ⟨g2, g3⟩ := B.low n b hn hg
          rw [l2, ← g3]
          exact h b g2 hep
    · split
      · rename_i k hk
        split
        · rename_i b hbn
          split
          · rename_i hep
            obtain ⟨t1, t2, t3⟩ := hT n k b hk hbn
            obtain ⟨a, cap, hv, hc, hl, ha⟩ := h.os_inv ((hget n).trans hbn) hep
            refine .os (base + k) 0 off len v (.inr t1) (by rw [hv]; rfl) (fun b' hg => Nat.zero_le _) fun b' hg _ => ?_
            rw [t3] at hg
            cases hg
            exact ⟨a, cap, hv, by rw [t2]; exact hc, hl, fun hp => by rw [t2]; exact ha hp⟩
          · exact .fr (.dead v)
        · exact .fr (.dead v)
      · exact hf h
  | op n e i j =>
    simp only [renC]
    split
    · rename_i hn
      obtain ⟨l1, l2, l3⟩ := hlow n hn
      cases h with
      | fr h => cases h
      | op _ _ _ _ _ hb' h1 he h =>
        refine .op n e i j v l3 h1 (fun b hg => ?_) fun b hg hep => ?_
        · rw [l1] at hg
          exact he b (B.low n b hn hg).1
        · rw [l1] at hg
          obtain ⟨g2, g3⟩ := B.low n b hn hg
          rw [l2, ← g3]
          exact h b g2 hep
    · split
      · rename_i k hk
        split
        · rename_i b hbn
          split
          · rename_i hep
            obtain ⟨t1, t2, t3⟩ := hT n k b hk hbn
            have hv := h.op_inv ((hget n).trans hbn) hep
            refine .op (base + k) 0 i j v (.inr t1) (by rw [hv]; rfl) (fun b' hg => Nat.zero_le _) fun b' hg _ => ?_
            rw [t3] at hg
            cases hg
            rw [t2]
            exact hv
          · exact .fr (.dead v)
        · exact .fr (.dead v)
      · exact hf h
  | v x => exact hf h
  | sl sz es => exact hf h
  | e0 => exact hf h
  | fp cs => exact hf h
  | agg cs => exact hf h
  | tup cs => exact hf h
  | fn f cs => exact hf h
  | yl k => exact hf h
  | dead => exact hf h

theorem map_getD {α : Type} (f : α → α) (cs : List α) (i : Nat) (x : α) (hi : i < cs.length) : (cs.map f).getD i x = f (cs.getD i x) := by
  simp [List.getD_eq_getElem?_getD, hi]

theorem ren1_rel (g1 : Good C1) (B : Back C C1 lo) (hget : ∀ n, C1.get n = H.get n) (hb : blksA H lo base T d T = some bs) (hnew : ∀ n, inT base T n → ¬ C.born n) (d' : Nat)
    {x : AV} {v : Value} (h : VR C1 x v) : VR (C.back C1 base T bs) (ren1 H lo base T d' x) v := by
  have r : ∀ {x : AV} {v : Value}, VR C1 x v → VR (C.back C1 base T bs) (renC H lo base T d' x) v := fun h => renC_rel g1 B hget hb hnew d' h
  unfold ren1
  split
  · rename_i cs
    obtain ⟨vs, rfl, hl, h1, hr⟩ := h.agg_inv
    exact .agg vs (by simpa using hl) (fun i hi => h1 i (by simpa using hi)) fun i hi => by
      rw [map_getD _ _ _ _ (by simpa using hi)]; exact r (hr i (by simpa using hi))
  · rename_i f cs
    obtain ⟨vs, rfl, hl, hr⟩ := h.fn_inv
    exact .fn f vs (by simpa using hl) fun i hi => by
      rw [map_getD _ _ _ _ (by simpa using hi)]; exact r (hr i (by simpa using hi))
  · exact r h

theorem renV_rel (g1 : Good C1) (B : Back C C1 lo) (hget : ∀ n, C1.get n = H.get n) (hb : blksA H lo base T d T = some bs) (hnew : ∀ n, inT base T n → ¬ C.born n) (d' : Nat)
    {x : AV} {v : Value} (h : VR C1 x v) : VR (C.back C1 base T bs) (renV H lo base T d' x) v := by
  unfold renV
  split
  · rename_i cs
    obtain ⟨vs, rfl, hl, hr⟩ := h.tup_inv
    exact .tup vs (by simpa using hl) fun i hi => by
      rw [map_getD _ _ _ _ (by simpa using hi)]; exact ren1_rel g1 B hget hb hnew d' (hr i (by simpa using hi))
  · exact ren1_rel g1 B hget hb hnew d' h

theorem back_le (g : Good C) (g1 : Good C1) (B : Back C C1 lo) (hget : ∀ n, C1.get n = H.get n) (hb : blksA H lo base T d T = some bs) (hnew : ∀ n, inT base T n → ¬ C.born n) :
    Le C (C.back C1 base T bs) where
  os := B.os
  tape := B.tape
  output := B.output
  X := fun _ h => h
  size := B.size
  lp := fun _ _ h => h
  xkeep := B.xkeep
  keep := fun b hb' hav => ⟨(B.keep b hb' hav).1, fun h => (B.keep b hb' hav).2 (back_sub g1 B hget hb b h)⟩
  born := fun n h => .inl h
  ep := fun n b' hn hg => by
    have : ¬ inT base T n := fun h => hnew n h hn
    simp only [Ctx.back, if_neg this] at hg ⊢
    exact ⟨b', hg, Nat.le_refl _, fun _ => ⟨rfl, rfl, trivial⟩⟩

/-- What a caller's block holds, at the callee's end: the names in it are the caller's. -/
theorem shrink (g1 : Good C1) (B : Back C C1 lo) (hget : ∀ n, C1.get n = H.get n) (hb : blksA H lo base T d T = some bs) (hnew : ∀ n, inT base T n → ¬ C.born n)
    (hborn : ∀ m, C.born m → m < lo) (hlp : ∀ (k : Nat) x, C.lp[k]? = some x → C1.lp[k]? = some x) {x : AV} {v : Value} (h : VR C1 x v) :
    ∀ {v0 : Value}, VR C x v0 → VR (C.back C1 base T bs) x v := by
  have low : ∀ n, C.born n → n < lo ∧ (C.back C1 base T bs).get n = C.get n ∧ (C.back C1 base T bs).β n = C.β n := fun n hn => by
    have : ¬ inT base T n := fun h => hnew n h hn
    simp only [Ctx.back, if_neg this]
    exact ⟨hborn n hn, trivial, trivial⟩
  induction h with
  | fr h => exact fun _ => .fr (h.weak (back_sub g1 B hget hb))
  | os n e off len v hb' h1 he h =>
    intro v0 h0
    have hn : C.born n := by cases h0 with | fr h => cases h | os _ _ _ _ _ h => exact h
    obtain ⟨hlt, l1, l2⟩ := low n hn
    refine .os n e off len v (.inl hn) h1 (fun b hg => ?_) fun b hg hep => ?_
    · rw [l1] at hg
      exact he b (B.low n b hlt hg).1
    · rw [l1] at hg
      obtain ⟨g2, g3⟩ := B.low n b hlt hg
      rw [l2, ← g3]
      exact h b g2 hep
  | op n e i j v hb' h1 he h =>
    intro v0 h0
    have hn : C.born n := by cases h0 with | fr h => cases h | op _ _ _ _ _ h => exact h
    obtain ⟨hlt, l1, l2⟩ := low n hn
    refine .op n e i j v (.inl hn) h1 (fun b hg => ?_) fun b hg hep => ?_
    · rw [l1] at hg
      exact he b (B.low n b hlt hg).1
    · rw [l1] at hg
      obtain ⟨g2, g3⟩ := B.low n b hlt hg
      rw [l2, ← g3]
      exact h b g2 hep
  | yl k l r h =>
    intro v0 h0
    cases h0 with
    | fr h => cases h
    | yl _ l' r' h' =>
      have := hlp k _ h'
      rw [h] at this
      cases this
      exact .yl k l r h'
  | agg vs hl h1 _ ih =>
    intro v0 h0
    obtain ⟨us, _, hl', _, hr'⟩ := h0.agg_inv
    exact .agg vs hl h1 fun i hi => ih i hi (hr' i hi)
  | tup vs hl _ ih =>
    intro v0 h0
    obtain ⟨us, _, hl', hr'⟩ := h0.tup_inv
    exact .tup vs hl fun i hi => ih i hi (hr' i hi)
  | fn f vs hl _ ih =>
    intro v0 h0
    obtain ⟨us, _, hl', hr'⟩ := h0.fn_inv
    exact .fn f vs hl fun i hi => ih i hi (hr' i hi)

theorem back_good (g : Good C) (g1 : Good C1) (B : Back C C1 lo) (hget : ∀ n, C1.get n = H.get n) (hb : blksA H lo base T d T = some bs) (hnew : ∀ n, inT base T n → ¬ C.born n)
    (hnd : T.Nodup) (hlo : ∀ n ∈ T, lo ≤ n) : Good (C.back C1 base T bs) where
  blk := fun n b h => by
    by_cases hn : inT base T n
    · obtain ⟨m, b', e1, e2, e3, e4⟩ := back_in hb hn
      simp only [Ctx.back, if_pos hn, e4, Option.some.injEq] at h
      subst h
      have hB := g1.blk m b' ((hget m).trans e3)
      have eβ : (C.back C1 base T bs).β n = C1.β m := by simp only [Ctx.back, if_pos hn, e2]
      have ew : (C.back C1 base T bs).w = C1.w := rfl
      unfold BR at hB ⊢
      rw [eβ, ew]
      dsimp only
      split
      · rename_i s pos hit
        rw [hit] at hB
        exact hB
      · rename_i hit
        rw [hit] at hB
        obtain ⟨cs, fr, h1, h2, h3, h4, h5, h6, h7⟩ := hB
        have hrow : ∀ i, i < b'.es.length → (b'.es.map fun cs => cs.map (renC H lo base T d)).getD i [] = (b'.es.getD i []).map (renC H lo base T d) := fun i hi => map_getD _ _ _ _ hi
        refine ⟨cs, fr, h1, h2, h3, by simpa using h4, h5, fun i hi => ?_, fun i j hi hj => ?_⟩
        · rw [List.length_map] at hi
          rw [hrow i hi, List.length_map, h6 i hi]
        · rw [List.length_map] at hi
          obtain ⟨v, p1, p2, p3⟩ := h7 i j hi hj
          refine ⟨v, p1, p2, ?_⟩
          rw [hrow i hi, map_getD _ _ _ _ (by rw [h6 i hi]; exact hj)]
          exact renC_rel g1 B hget hb hnew d p3
    · simp only [Ctx.back, if_neg hn] at h
      have eβ : (C.back C1 base T bs).β n = C.β n := by simp only [Ctx.back, if_neg hn]
      rcases B.blk n b h with hh | ⟨hlt, hborn, hlp⟩
      · exact (g.blk n b h).mono (back_le g g1 B hget hb hnew) eβ hh
      · obtain ⟨k1, k2⟩ := B.low n b hlt h
        have hB := g1.blk n b k1
        have hB0 := g.blk n b h
        have ew : (C.back C1 base T bs).w = C1.w := rfl
        unfold BR at hB hB0 ⊢
        rw [eβ, ew]
        rw [k2] at hB
        split
        · rename_i s pos hit
          rw [hit] at hB
          exact hB
        · rename_i hit
          rw [hit] at hB hB0
          obtain ⟨cs, fr, h1, h2, h3, h4, h5, h6, h7⟩ := hB
          obtain ⟨cs0, fr0, _, _, _, _, _, _, q7⟩ := hB0
          refine ⟨cs, fr, h1, h2, h3, h4, h5, h6, fun i j hi hj => ?_⟩
          obtain ⟨v, p1, p2, p3⟩ := h7 i j hi hj
          obtain ⟨v0, _, _, q3⟩ := q7 i j hi hj
          exact ⟨v, p1, p2, shrink g1 B hget hb hnew hborn hlp p3 q3⟩
  inj := fun n m b c hn hm e => by
    by_cases i1 : inT base T n <;> by_cases i2 : inT base T m
    · obtain ⟨n', b', e1, e2, e3, e4⟩ := back_in hb i1
      obtain ⟨m', c', f1, f2, f3, f4⟩ := back_in hb i2
      simp only [Ctx.back, if_pos i1, if_pos i2, e2, f2] at e
      have := g1.inj n' m' b' c' ((hget _).trans e3) ((hget _).trans f3) e
      subst this
      have hk : n - base = m - base := (List.getElem?_inj (List.getElem?_eq_some_iff.1 e1).1 hnd).1 (e1.trans f1.symm)
      unfold inT at i1 i2
      omega
    · obtain ⟨n', b', e1, e2, e3, e4⟩ := back_in hb i1
      simp only [Ctx.back, if_neg i2] at hm
      simp only [Ctx.back, if_pos i1, if_neg i2, e2] at e
      exact absurd e ((B.av _ (.inr ⟨m, c, hm, rfl⟩)).2 n' b' (hlo n' (List.mem_of_getElem? e1)) ((hget _).trans e3))
    · obtain ⟨m', c', f1, f2, f3, f4⟩ := back_in hb i2
      simp only [Ctx.back, if_neg i1] at hn
      simp only [Ctx.back, if_neg i1, if_pos i2, f2] at e
      exact absurd e.symm ((B.av _ (.inr ⟨n, b, hn, rfl⟩)).2 m' c' (hlo m' (List.mem_of_getElem? f1)) ((hget _).trans f3))
    · simp only [Ctx.back, if_neg i1, if_neg i2] at hn hm e
      exact g.inj n m b c hn hm e
  notX := fun n b hn hX => by
    by_cases i1 : inT base T n
    · obtain ⟨n', b', e1, e2, e3, e4⟩ := back_in hb i1
      simp only [Ctx.back, if_pos i1, e2] at hX
      exact (B.av _ (.inl (.inl hX))).2 n' b' (hlo n' (List.mem_of_getElem? e1)) ((hget _).trans e3) rfl
    · simp only [Ctx.back, if_neg i1] at hn hX
      exact g.notX n b hn hX
  born := fun n b hn => by
    by_cases i1 : inT base T n
    · exact .inr i1
    · simp only [Ctx.back, if_neg i1] at hn
      exact .inl (g.born n b hn)
  xlt := fun b h => Nat.lt_of_lt_of_le (g.xlt b h) B.size
  lpn := g.lpn
  lp := B.lp
  lpX := fun k l r h => ⟨(g.lpX k l r h).1, fun n b hn => by
    by_cases i1 : inT base T n
    · obtain ⟨n', b', e1, e2, e3, e4⟩ := back_in hb i1
      simp only [Ctx.back, if_pos i1, e2]
      exact (B.av l (.inl (.inr ⟨k, r, h⟩))).2 n' b' (hlo n' (List.mem_of_getElem? e1)) ((hget _).trans e3)
    · simp only [Ctx.back, if_neg i1] at hn ⊢
      exact (g.lpX k l r h).2 n b hn⟩
  lpi := g.lpi
end

end Go.Am

namespace Go.Am

structure HR (C : Ctx) (H : AHeap) : Prop where
  get : ∀ n, C.get n = H.get n
  born : ∀ n, C.born n ↔ n < H.next
  js : C.js = H.js

def ARel (C : Ctx) (args : List AV) (vs : Array Value) : Prop := vs.size = args.length ∧ ∀ i, i < args.length → VR C (args.getD i .dead) (vs.getD i undef)
theorem ARel.mono {C C' : Ctx} (k : Le C C') {args : List AV} {vs : Array Value} (h : ARel C args vs) : ARel C' args vs := ⟨h.1, fun i hi => (h.2 i hi).mono k⟩

def YRel (C : Ctx) (ys : List (Nat × LRec)) : Prop :=
  ∀ p ∈ ys, ∃ (l : Nat) (r : Loop), C.lp[p.1]? = some (l, r) ∧ r.params.toList = p.2.params ∧ r.assign = p.2.assign ∧ r.body = p.2.body ∧ TR C p.2.tm r.tmps
theorem YRel.mono {C C' : Ctx} (k : Le C C') {ys : List (Nat × LRec)} (h : YRel C ys) : YRel C' ys := fun p hp =>
  let ⟨l, r, a, b, c, d, e⟩ := h p hp; ⟨l, r, k.lp _ _ a, b, c, d, e.mono k⟩
theorem YRel.nil (C : Ctx) : YRel C [] := fun p hp => by cases hp

/-- A later context, the shared heap's state in it. -/
structure After (C C' : Ctx) (lo : Nat) (ys : List (Nat × LRec)) (H' : AHeap) : Prop where
  le : Le C C'
  good : Good C'
  hr : HR C' H'
  low : ∀ n, n < lo → C'.get n = C.get n
  js : ∀ (k : Nat), k < C.js.length → (∀ p ∈ ys, p.1 ≠ k) → C'.js[k]? = C.js[k]?

theorem After.refl {C : Ctx} {lo : Nat} {ys : List (Nat × LRec)} {H : AHeap} (g : Good C) (h : HR C H) : After C C lo ys H := ⟨.refl C, g, h, fun _ _ => rfl, fun _ _ _ => rfl⟩
theorem Good.jslen {C C' : Ctx} (g : Good C) (g' : Good C') (k : Le C C') : C.js.length ≤ C'.js.length := by
  rw [g.lpn, g'.lpn]
  rcases Nat.eq_zero_or_pos C.lp.length with h | h
  · omega
  · have hlt : C.lp.length - 1 < C.lp.length := by omega
    have := k.lp (C.lp.length - 1) _ (List.getElem?_eq_getElem hlt)
    have := (List.getElem?_eq_some_iff.1 this).1
    omega
theorem After.trans {A B C : Ctx} {lo : Nat} {ys : List (Nat × LRec)} {H H' : AHeap} (g : Good A) (h : After A B lo ys H) (k : After B C lo ys H') : After A C lo ys H' where
  le := h.le.trans k.le
  good := k.good
  hr := k.hr
  low := fun n hn => (k.low n hn).trans (h.low n hn)
  js := fun i hi hp => (k.js i (Nat.lt_of_lt_of_le hi (g.jslen h.good h.le)) hp).trans (h.js i hi hp)

/-! Blocks that hold nothing of the values are turned. -/
/-- The same context, in a world in which only blocks of X and records of loops over functions that are over were turned; fewer such. -/
theorem VR.turn {C C' : Ctx} (hg : C'.get = C.get) (hβ : C'.β = C.β) (hb : C'.born = C.born) (hl : C'.lp = C.lp) (hk : ∀ b, b < C.w.heap.size → ¬ C.av b → C'.w.heap[b]? = C.w.heap[b]? ∧ ¬ C'.av b) (hs : C.w.heap.size ≤ C'.w.heap.size)
    {x : AV} {v : Value} (h : VR C x v) : VR C' x v := by
  induction h with
  | fr h => exact .fr (h.mono hk hs)
  | os n e off len v hb' h1 he h => exact .os n e off len v (hb ▸ hb') h1 (by rw [hg]; exact he) (by rw [hg, hβ]; exact h)
  | op n e i j v hb' h1 he h => exact .op n e i j v (hb ▸ hb') h1 (by rw [hg]; exact he) (by rw [hg, hβ]; exact h)
  | yl k l r h => exact .yl k l r (hl ▸ h)
  | agg vs hl h1 _ ih => exact .agg vs hl h1 ih
  | tup vs hl _ ih => exact .tup vs hl ih
  | fn f vs hl _ ih => exact .fn f vs hl ih
theorem BR.turn {C C' : Ctx} (hg : C'.get = C.get) (hβ : C'.β = C.β) (hb : C'.born = C.born) (hl : C'.lp = C.lp) (hk : ∀ b, b < C.w.heap.size → ¬ C.av b → C'.w.heap[b]? = C.w.heap[b]? ∧ ¬ C'.av b) (hs : C.w.heap.size ≤ C'.w.heap.size)
    {n : Nat} {b : Blk} (h : BR C n b) (hh : C'.w.heap[(C.β n).1]? = C.w.heap[(C.β n).1]?) : BR C' n b := by
  unfold BR at h ⊢
  rw [hβ]
  cases hit : b.it with
  | some sp =>
    obtain ⟨s, pos⟩ := sp
    simp only [hit] at h ⊢
    rw [hh]
    exact h
  | none =>
    simp only [hit] at h ⊢
    obtain ⟨cs, fr, h1, h2, h3, h4, h5, h6, h7⟩ := h
    refine ⟨cs, fr, by rw [hh]; exact h1, h2, h3, h4, h5, h6, fun i j hi hj => ?_⟩
    obtain ⟨v, g1, g2, g3⟩ := h7 i j hi hj
    exact ⟨v, g1, g2, g3.turn hg hβ hb hl hk hs⟩

/-- A function's marks: the blocks of its loops' deferred calls. -/
def marked (ds : List Nat) : List Deferred := ds.map fun D => { target := .collected D, args := #[] }
structure Marks (C C' : Ctx) (ds : List Nat) : Prop where
  nodup : ds.Nodup
  new : ∀ D ∈ ds, C.w.heap.size ≤ D
  x : ∀ D ∈ ds, C'.X D
  at' : ∀ D ∈ ds, C'.w.heap[D]? = some (.deferred (some []))
theorem Marks.nil (C C' : Ctx) : Marks C C' [] := ⟨.nil, by simp, by simp, by simp⟩
theorem Marks.mono {C C' C'' : Ctx} {ds : List Nat} (h : Marks C C' ds) (k : Le C' C'') : Marks C C'' ds :=
  ⟨h.nodup, h.new, fun D hD => k.X D (h.x D hD), fun D hD => (k.xkeep D (h.x D hD)).trans (h.at' D hD)⟩
theorem Marks.append {A B C : Ctx} {ds es : List Nat} (gB : Good B) (hAB : Le A B) (h : Marks A B ds) (hBC : Le B C) (k : Marks B C es) : Marks A C (es ++ ds) where
  nodup := List.nodup_append.2 ⟨k.nodup, h.nodup, fun a ha b hb e => by
    subst e
    have h1 := k.new a ha
    have h2 := gB.xlt a (h.x a hb)
    omega⟩
  new := fun D hD => by
    rcases List.mem_append.1 hD with hD | hD
    · exact Nat.le_trans hAB.size (k.new D hD)
    · exact h.new D hD
  x := fun D hD => by
    rcases List.mem_append.1 hD with hD | hD
    · exact k.x D hD
    · exact hBC.X D (h.x D hD)
  at' := fun D hD => by
    rcases List.mem_append.1 hD with hD | hD
    · exact k.at' D hD
    · exact (hBC.xkeep D (h.x D hD)).trans (h.at' D hD)

def shutW (w : World) : List Nat → World
  | [] => w
  | D :: r => shutW (w.putObj D (.deferred none)) r
theorem shutW_spec (ds : List Nat) : ∀ (w : World), (shutW w ds).os = w.os ∧ (shutW w ds).tape = w.tape ∧ (shutW w ds).output = w.output ∧ (shutW w ds).heap.size = w.heap.size ∧ ∀ b, b ∉ ds → (shutW w ds).heap[b]? = w.heap[b]? := by
  induction ds with
  | nil => intro w; exact ⟨rfl, rfl, rfl, rfl, fun _ _ => rfl⟩
  | cons D r ih =>
    intro w
    obtain ⟨a, b, c, d, e⟩ := ih (w.putObj D (.deferred none))
    refine ⟨a, b, c, d.trans (by simp [World.putObj]), fun x hx => ?_⟩
    simp only [List.mem_cons, not_or] at hx
    exact (e x hx.2).trans (World.putObj_heap_other hx.1)

theorem leaves_marked {F : Fence} {n : Nat} {P : Program} {fn : Func} {tmps : Array Value} {R : Ending → World → Prop} (ds : List Nat) (hnd : ds.Nodup) : ∀ (w : World),
    (∀ D ∈ ds, w.heap[D]? = some (.deferred (some []))) → (∃ v, (results fn tmps).run P (shutW w ds) = .ok v (shutW w ds) ∧ R (.returned v) (shutW w ds)) → LeavesInM F n P fn tmps R (marked ds) .returning w := by
  induction ds with
  | nil => intro w _ h; exact h
  | cons D r ih =>
    intro w hw h
    obtain ⟨h1, h2⟩ := List.nodup_cons.1 hnd
    refine ⟨by simp, .inl ⟨D, _, rfl, run_takeDeferred (hw D (by simp)), ih h2 _ (fun E hE => ?_) h⟩⟩
    have hne : E ≠ D := fun e => h1 (e ▸ hE)
    exact (World.putObj_heap_other hne).trans (hw E (by simp [hE]))

/-- Back from a function's end: its marks taken, the caller's X again. -/
def Ctx.leave (C C' : Ctx) (ds : List Nat) : Ctx := { C' with w := shutW C'.w ds, X := C.X }

section
variable {C C' : Ctx} {ds : List Nat}
theorem leave_keep (g' : Good C') (m : Marks C C' ds) (hX : ∀ b, C.X b → C'.X b) (b : Nat) (hb : b < C'.w.heap.size) (hav : ¬ C'.av b) : (C.leave C' ds).w.heap[b]? = C'.w.heap[b]? ∧ ¬ (C.leave C' ds).av b := by
  refine ⟨(shutW_spec ds C'.w).2.2.2.2 b fun h => hav (.inl (.inl (m.x b h))), ?_⟩
  rintro ((h | h) | h)
  · exact hav (.inl (.inl (hX b h)))
  · exact hav (.inl (.inr h))
  · exact hav (.inr h)
theorem leave_size : (C.leave C' ds).w.heap.size = C'.w.heap.size := (shutW_spec ds C'.w).2.2.2.1
theorem leave_vr (g' : Good C') (m : Marks C C' ds) (hX : ∀ b, C.X b → C'.X b) {x : AV} {v : Value} (h : VR C' x v) : VR (C.leave C' ds) x v :=
  VR.turn (C := C') (C' := C.leave C' ds) rfl rfl rfl rfl (leave_keep g' m hX) (Nat.le_of_eq leave_size.symm) h
theorem leave_good (g' : Good C') (m : Marks C C' ds) (hle : Le C C') : Good (C.leave C' ds) where
  blk := fun n b h => BR.turn (C := C') (C' := C.leave C' ds) rfl rfl rfl rfl (leave_keep g' m hle.X) (Nat.le_of_eq leave_size.symm) (g'.blk n b h)
    ((shutW_spec ds C'.w).2.2.2.2 _ fun hd => g'.notX n b h (m.x _ hd))
  inj := g'.inj
  notX := fun n b h hx => g'.notX n b h (hle.X _ hx)
  born := g'.born
  xlt := fun b hb => by rw [leave_size]; exact g'.xlt b (hle.X b hb)
  lpn := g'.lpn
  lp := fun k l r s h1 h2 => (g'.lp k l r s h1 h2).mono ((shutW_spec ds C'.w).2.2.2.2 _ fun hd => (g'.lpX k l r h1).1 (m.x _ hd)) (Nat.le_of_eq leave_size.symm)
  lpX := fun k l r h => ⟨fun hx => (g'.lpX k l r h).1 (hle.X _ hx), (g'.lpX k l r h).2⟩
  lpi := g'.lpi
theorem leave_le (g : Good C) (g' : Good C') (m : Marks C C' ds) (hle : Le C C') : Le C (C.leave C' ds) where
  os := (shutW_spec ds C'.w).1.trans hle.os
  tape := (shutW_spec ds C'.w).2.1.trans hle.tape
  output := (shutW_spec ds C'.w).2.2.1.trans hle.output
  X := fun _ h => h
  size := by rw [leave_size]; exact hle.size
  lp := hle.lp
  xkeep := fun b hb => ((shutW_spec ds C'.w).2.2.2.2 b fun hd => by have := m.new b hd; have := g.xlt b hb; omega).trans (hle.xkeep b hb)
  keep := fun b hb hav => by
    obtain ⟨h1, h2⟩ := hle.keep b hb hav
    refine ⟨((shutW_spec ds C'.w).2.2.2.2 b fun hd => by have := m.new b hd; omega).trans h1, ?_⟩
    exact (leave_keep g' m hle.X b (Nat.lt_of_lt_of_le hb hle.size) h2).2
  born := hle.born
  ep := hle.ep
end

/-! The results. -/
theorem tmps_cell {P : Program} {C : Ctx} (g : Good C) {tm : Slots} {H : AHeap} {a : Array Value} (hH : ∀ n, C.get n = H.get n) (ht : TR C tm a) {r : ResultVar} {y : AV}
    (h : (match r with
      | .tmp t => some (tm.get t)
      | .cell a t => match tm.get a with
        | .op n e i j => (H.get n).bind fun b => if b.ep = e ∧ b.it.isNone ∧ i < b.es.length ∧ j ≤ b.sz then partA P t ((b.es.getD i []).drop j) else none
        | _ => none : Option AV) = some y) :
    ∃ v, (match r with
      | .tmp t => pure (a.getD t undef)
      | .cell b t => do loadVar t (← asAddr (a.getD b undef)) : Sem Value).run P C.w = .ok v C.w ∧ VR C y v := by
  cases r with
  | tmp t =>
    simp only [Option.some.injEq] at h
    subst h
    exact ⟨_, rfl, ht.2 t⟩
  | cell b t =>
    simp only at h
    split at h
    · rename_i n e i j hop
      cases hg : H.get n with
      | none => rw [hg] at h; cases h
      | some blk =>
        rw [hg] at h
        simp only [Option.bind_some] at h
        split at h
        · rename_i hc
          obtain ⟨he, hit, hi, hj⟩ := hc
          have hv := (hop ▸ ht.2 b).op_inv ((hH n).trans hg) he
          obtain ⟨v, hrun, hvr⟩ := partA_load (C := C) h _ _ (owned_cells g ((hH n).trans hg) hit hi hj).2
          refine ⟨v, ?_, hvr⟩
          simp [hv, asAddr, hrun]
        · cases h
    · cases h

end Go.Am

namespace Go.Am

theorem mapM_run {P : Program} {w : World} {α : Type} {f : α → Sem Value} {g : α → Option AV} {C : Ctx} (l : List α) (hl : ∀ x ∈ l, ∀ y, g x = some y → ∃ v, (f x).run P w = .ok v w ∧ VR C y v) :
    ∀ {ys : List AV}, l.mapM g = some ys → ∃ vs : List Value, (l.mapM f).run P w = .ok vs w ∧ vs.length = ys.length ∧ ∀ i, i < ys.length → VR C (ys.getD i .dead) (vs.getD i undef) := by
  induction l with
  | nil => intro ys h; simp at h; subst h; exact ⟨[], rfl, rfl, by simp⟩
  | cons x r ih =>
    intro ys h
    rw [List.mapM_cons] at h
    cases hx : g x with
    | none => rw [hx] at h; cases h
    | some y =>
      rw [hx] at h
      cases hr : r.mapM g with
      | none => rw [hr] at h; cases h
      | some zs =>
        rw [hr] at h
        have h : y :: zs = ys := by simpa using h
        subst h
        obtain ⟨v, h1, h2⟩ := hl x (by simp) y hx
        obtain ⟨vs, h3, h4, h5⟩ := ih (fun z hz => hl z (by simp [hz])) hr
        refine ⟨v :: vs, ?_, by simp [h4], fun i hi => ?_⟩
        · rw [List.mapM_cons]
          simp [Sem.run_bind, h1, h3, Result.andThen]
        · cases i with
          | zero => exact h2
          | succ i => exact h5 i (by simpa using hi)

def resF (a : Array Value) : ResultVar → Sem Value
  | .tmp t => pure (a.getD t undef)
  | .cell b t => do loadVar t (← asAddr (a.getD b undef))
theorem results_resF (fn : Func) (a : Array Value) : results fn a = (fn.results.mapM (resF a) >>= fun vs => pure (if h : vs.size = 1 then vs[0] else .tuple vs)) := rfl

theorem results_rel {P : Program} {C : Ctx} (g : Good C) {s : St} {a : Array Value} (hH : ∀ n, C.get n = s.H.get n) (ht : TR C s.tm a) {fn : Func} {r : AV} (h : resultsA P fn s = some r) :
    ∃ v, (results fn a).run P C.w = .ok v C.w ∧ VR C r v := by
  unfold resultsA at h
  simp only [Option.bind_eq_bind] at h
  obtain ⟨ys, hys, h⟩ := Option.bind_eq_some_iff.1 h
  have key := mapM_run (P := P) (w := C.w) (C := C) (f := resF a) fn.results.toList (fun x _ y hy => tmps_cell (r := x) g hH ht hy) hys
  obtain ⟨vs, h1, h2, h3⟩ := key
  have hm : (results fn a).run P C.w = .ok (if h : vs.toArray.size = 1 then vs.toArray[0] else .tuple vs.toArray) C.w := by
    rw [results_resF, Array.mapM_eq_mapM_toList]
    simp only [Sem.run_bind, Sem.run_map, h1, Result.andThen, Sem.run_pure]
  refine ⟨_, hm, ?_⟩
  split at h
  · rename_i x
    simp only [Option.some.injEq] at h
    subst h
    rcases vs with _ | ⟨v, _ | ⟨u, r⟩⟩
    · simp at h2
    · exact h3 0 (by simp)
    · simp at h2
  · rename_i zs hne
    simp only [Option.some.injEq] at h
    subst h
    have : ¬ vs.toArray.size = 1 := by
      intro e
      rcases ys with _ | ⟨y, _ | ⟨z, r⟩⟩
      · simp [h2] at e
      · exact hne y rfl
      · simp [h2] at e
    rw [dif_neg this]
    exact .tup _ (by simpa using h2) fun i hi => by simpa [List.getD_eq_getElem?_getD, Array.getD_eq_getD_getElem?] using h3 i hi

def exOf : AX → Exit
  | .normal => .normal
  | .exit id => .exit id
  | .ret => .ret

/-- Of the fence: all functions, any depth; a round or none. -/
def FenceOK (rd : Bool) (F : Fence) : Prop := (∀ f, F.fn f) ∧ F.depth = none ∧ (rd = false → F.round = none) ∧ F.alive = false

/-- What the run of a piece of code says of the code. -/
def Post (C : Ctx) (lo : Nat) (ys : List (Nat × LRec)) (a : Act) (x : AX) (s' : St) (e : Exit) (a' : Act) (w' : World) : Prop :=
  e = exOf x ∧ ∃ C' ds, C'.w = w' ∧ After C C' lo ys s'.H ∧ TR C' s'.tm a'.tmps ∧ a'.defers = marked ds ++ a.defers ∧ Marks C C' ds
def GoOK (E : Env) (go : Run) : Prop :=
  ∀ (rd : Bool) (ys : List (Nat × LRec)) (lo : Nat) (c : Code) (s : St) (x : AX) (s' : St), go rd ys lo c s = some (x, s') →
    ∀ (C : Ctx) (a : Act) (F : Fence) (n : Nat), FenceOK rd F → Good C → HR C s.H → lo ≤ s.H.next → TR C s.tm a.tmps → YRel C ys → c.wpIn F n E.P (Post C lo ys a x s') a C.w

/-- What the operation did. -/
structure Did (C C' : Ctx) (lo : Nat) (ys : List (Nat × LRec)) (H' : AHeap) (tr : Tr) : Prop where
  le : Le C C'
  good : Good C'
  X : C'.X = C.X
  get : ∀ n, tr.wr.testBit n = true ∨ tr.all = 2 → C'.get n = H'.get n ∧ (C'.born n ↔ n < H'.next)
  same : ∀ n, tr.wr.testBit n = false → tr.all ≠ 2 → C'.get n = C.get n ∧ (C'.born n ↔ C.born n)
  js2 : tr.all = 2 → C'.js = H'.js
  js : tr.all ≠ 2 → C'.js = C.js
  low : ∀ n, n < lo → C'.get n = C.get n
  jsk : ∀ (k : Nat), k < C.js.length → (∀ p ∈ ys, p.1 ≠ k) → C'.js[k]? = C.js[k]?

/-- What was proved elsewhere of a function: called on such arguments it gives x, and leaves what there was. -/
structure OrcOK (P : Program) (f : FuncId) (args : List AV) (x : AV) : Prop where
  body : ∃ fn c, P.funcs[f]? = some fn ∧ fn.body = some c
  run : ∀ (C : Ctx) (vs : Array Value), Good C → ARel C args vs → ∀ (F : Fence), FenceOK false F → ∀ n, CallsIn F n P f vs C.w fun e w' => ∃ v, e = .returned v ∧ ∃ C' : Ctx, C'.w = w' ∧ (∀ lo ys (H : AHeap), (∀ m, m < lo → C.born m) → Did C C' lo ys H ⟨0, 0, 0⟩) ∧ VR C' x v

structure ProgOK (E : Env) : Prop extends EnvOK E where
  noNG : ∀ (f : FuncId) (fn : Func), E.P.funcs[f]? = some fn → (fn.name == "runtime.NumGoroutine") = false
  orc : ∀ (f : FuncId) (args : List AV) (x : AV), E.orc f args = some x → OrcOK E.P f args x

theorem run_callFunc {P : Program} {f : FuncId} {fn : Func} {c : Code} (h : P.funcs[f]? = some fn) (hb : fn.body = some c) (hn : (fn.name == "runtime.NumGoroutine") = false) (args : Array Value) (w : World) :
    (callFunc f args).run P w = .ok (.enter f args) w := by
  have hn' : ¬ fn.name = "runtime.NumGoroutine" := by simpa using hn
  simp [callFunc, Sem.run_bind, h, hb, hn', Result.andThen, program, Sem.run]

theorem HR.le_next {C : Ctx} {H : AHeap} {lo : Nat} (h : HR C H) (hl : ∀ m, m < lo → C.born m) : lo ≤ H.next := by
  rcases Nat.lt_or_ge H.next lo with h' | h'
  · exact absurd ((h.born _).1 (hl _ h')) (Nat.lt_irrefl _)
  · exact h'
theorem After.lo {C C' : Ctx} {lo : Nat} {ys : List (Nat × LRec)} {H H' : AHeap} (h : After C C' lo ys H') (hH : HR C H) (hl : lo ≤ H.next) : lo ≤ H'.next :=
  h.hr.le_next fun m hm => h.le.born m ((hH.born m).2 (by omega))

/-- What a call ends in. -/
def CPost (C : Ctx) (lo : Nat) (ys : List (Nat × LRec)) (r : AV) (H' : AHeap) (e : Ending) (w' : World) : Prop :=
  ∃ v, e = .returned v ∧ ∃ C', C'.w = w' ∧ After C C' lo ys H' ∧ C'.X = C.X ∧ VR C' r v

theorem call_ok {E : Env} {go : Run} (hgo : GoOK E go) {ys : List (Nat × LRec)} {lo : Nat} {f : FuncId} {args : List AV} {H : AHeap} {r : AV} {H' : AHeap} (h : callG E go ys lo f args H = some (r, H'))
    {C : Ctx} (g : Good C) (hH : HR C H) (hlo : lo ≤ H.next) {vs : Array Value} (ha : ARel C args vs) (hy : YRel C ys) (F : Fence) (hF : FenceOK false F) (n : Nat) :
    CallsIn F n E.P f vs C.w (CPost C lo ys r H') ∧ ∃ fn c, E.P.funcs[f]? = some fn ∧ fn.body = some c := by
  unfold callG at h
  split at h
  · cases h
  rename_i fn hfn
  split at h
  · cases h
  rename_i body hb
  split at h
  · cases h
  rename_i hlen
  rw [fL_eq fH_eq] at h
  obtain ⟨tm, htm, hn, hget⟩ := Slots.mk'_eq fn.ntmps args (by omega) fun tm =>
    match go false ys lo body ⟨tm, H⟩ with
    | some (.normal, s') | some (.ret, s') => match resultsA E.P fn s' with
      | some r => fA r fun r => some (r, s'.H)
      | none => none
    | _ => none
  have htm' : _ = some (r, H') := htm.symm.trans h
  clear htm h
  refine ⟨?_, fn, body, hfn, hb⟩
  have hT : TR C tm (vs ++ Array.replicate (fn.ntmps - vs.size) undef) := by
    refine ⟨by rw [hn]; simp [ha.1]; omega, fun t => ?_⟩
    rw [hget t]
    by_cases ht : t < args.length
    · have e1 : args.getD t (.tup []) = args.getD t .dead := by simp [List.getD_eq_getElem?_getD, ht]
      have e2 : (vs ++ Array.replicate (fn.ntmps - vs.size) undef).getD t undef = vs.getD t undef := by
        simp only [Array.getD_eq_getD_getElem?]
        rw [Array.getElem?_append_left (by rw [ha.1]; exact ht)]
      rw [e1, e2]
      exact ha.2 t ht
    · have e1 : args.getD t (.tup []) = .tup [] := by simp [List.getD_eq_getElem?_getD, ht]
      have e2 : (vs ++ Array.replicate (fn.ntmps - vs.size) undef).getD t undef = undef := by
        simp only [Array.getD_eq_getD_getElem?]
        rw [Array.getElem?_append_right (by rw [ha.1]; omega), Array.getElem?_replicate]
        split <;> rfl
      rw [e1, e2]
      exact vr_undef
  have main : ∀ x s', go false ys lo body ⟨tm, H⟩ = some (x, s') → (x = .normal ∨ x = .ret) → resultsA E.P fn s' = some r → s'.H = H' → CallsIn F n E.P f vs C.w (CPost C lo ys r H') := by
    intro x s' hx hxx hr hH'
    have hw := hgo false ys lo body ⟨tm, H⟩ x s' hx C { tmps := vs ++ Array.replicate (fn.ntmps - vs.size) undef, defers := [] } F n hF g hH hlo hT hy
    refine callsIn_of_wp_marks hfn hb (hF.1 f) (wpIn_mono hw ?_) (hF.2.2.1 rfl)
    rintro e a' w' ⟨he, C', ds, rfl, hA, hT', hd, hm⟩
    have lv : LeavesInM F n E.P fn a'.tmps (CPost C lo ys r H') a'.defers .returning C'.w := by
      rw [hd, List.append_nil]
      refine leaves_marked ds hm.nodup C'.w hm.at' ?_
      have gL : Good (C.leave C' ds) := leave_good hA.good hm hA.le
      obtain ⟨v, hv, hvr⟩ := results_rel (P := E.P) (C := C.leave C' ds) gL (s := s') (a := a'.tmps) (fn := fn) (r := r) hA.hr.get ⟨hT'.1, fun t => leave_vr hA.good hm hA.le.X (hT'.2 t)⟩ hr
      refine ⟨v, hv, v, rfl, C.leave C' ds, rfl, ⟨leave_le g hA.good hm hA.le, gL, ?_, hA.low, hA.js⟩, rfl, hvr⟩
      subst hH'
      exact ⟨hA.hr.get, hA.hr.born, hA.hr.js⟩
    rcases hxx with rfl | rfl
    · subst he; exact lv
    · subst he; exact lv
  split at htm'
  · rename_i s' hx
    split at htm'
    · rename_i r' hr
      rw [fA_eq] at htm'
      simp only [Option.some.injEq, Prod.mk.injEq] at htm'
      exact main .normal s' hx (.inl rfl) (htm'.1 ▸ hr) htm'.2
    · cases htm'
  · rename_i s' hx
    split at htm'
    · rename_i r' hr
      rw [fA_eq] at htm'
      simp only [Option.some.injEq, Prod.mk.injEq] at htm'
      exact main .ret s' hx (.inr rfl) (htm'.1 ▸ hr) htm'.2
    · cases htm'
  · cases htm'

end Go.Am

namespace Go.Am

def Ctx.turn (C : Ctx) (w' : World) (js' : List LS) (X' : Nat → Prop) : Ctx := { C with w := w', js := js', X := X' }
section
variable {C : Ctx} {w' : World} {js' : List LS} {X' : Nat → Prop}
theorem turn_av (hX : ∀ b, X' b → C.X b) (b : Nat) (h : (C.turn w' js' X').av b) : C.av b := by
  rcases h with (h | h) | h
  · exact .inl (.inl (hX b h))
  · exact .inl (.inr h)
  · exact .inr h
theorem turn_vr (hs : w'.heap.size = C.w.heap.size) (hX : ∀ b, X' b → C.X b) (hk : ∀ b, ¬ C.av b → w'.heap[b]? = C.w.heap[b]?) {x : AV} {v : Value} (h : VR C x v) : VR (C.turn w' js' X') x v :=
  VR.turn (C := C) (C' := C.turn w' js' X') rfl rfl rfl rfl (fun b _ hn => ⟨hk b hn, fun h => hn (turn_av hX b h)⟩) (Nat.le_of_eq hs.symm) h
theorem turn_good (g : Good C) (hs : w'.heap.size = C.w.heap.size) (hX : ∀ b, X' b → C.X b) (hk : ∀ b, ¬ C.av b → w'.heap[b]? = C.w.heap[b]?)
    (hblk : ∀ n b, C.get n = some b → w'.heap[(C.β n).1]? = C.w.heap[(C.β n).1]?) (hjl : js'.length = C.js.length)
    (hlp : ∀ (k l : Nat) (r : Loop) (s : LS), C.lp[k]? = some (l, r) → js'[k]? = some s → LoopAt w' l r s) : Good (C.turn w' js' X') where
  blk := fun n b h => BR.turn (C := C) (C' := C.turn w' js' X') rfl rfl rfl rfl (fun b _ hn => ⟨hk b hn, fun h => hn (turn_av hX b h)⟩) (Nat.le_of_eq hs.symm) (g.blk n b h) (hblk n b h)
  inj := g.inj
  notX := fun n b h hx => g.notX n b h (hX _ hx)
  born := g.born
  xlt := fun b hb => by show b < w'.heap.size; rw [hs]; exact g.xlt b (hX b hb)
  lpn := hjl.trans g.lpn
  lp := hlp
  lpX := fun k l r h => ⟨fun hx => (g.lpX k l r h).1 (hX _ hx), (g.lpX k l r h).2⟩
  lpi := g.lpi
theorem turn_le {A : Ctx} (hA : Le A C) (ho : w'.os = C.w.os) (ht : w'.tape = C.w.tape) (hu : w'.output = C.w.output) (hs : w'.heap.size = C.w.heap.size) (hX : ∀ b, X' b → C.X b) (hAX : ∀ b, A.X b → X' b)
    (hk : ∀ b, ¬ C.av b → w'.heap[b]? = C.w.heap[b]?) (hx : ∀ b, A.X b → w'.heap[b]? = C.w.heap[b]?) : Le A (C.turn w' js' X') where
  os := ho.trans hA.os
  tape := ht.trans hA.tape
  output := hu.trans hA.output
  X := hAX
  size := by show _ ≤ w'.heap.size; rw [hs]; exact hA.size
  lp := hA.lp
  xkeep := fun b hb => (hx b hb).trans (hA.xkeep b hb)
  keep := fun b hb hn => by
    obtain ⟨h1, h2⟩ := hA.keep b hb hn
    exact ⟨(hk b h2).trans h1, fun h => h2 (turn_av hX b h)⟩
  born := hA.born
  ep := hA.ep
end

/-- The record of a loop over a function is turned. -/
theorem record_turn {C : Ctx} (g : Good C) {k l : Nat} {r : Loop} (hl : C.lp[k]? = some (l, r)) (o : Obj) (s : LS) (X' : Nat → Prop) (hX : ∀ b, X' b → C.X b) (hs : LoopAt (C.w.putObj l o) l r s) :
    Good (C.turn (C.w.putObj l o) (C.js.set k s) X') ∧ (∀ {x : AV} {v : Value}, VR C x v → VR (C.turn (C.w.putObj l o) (C.js.set k s) X') x v) ∧
    ∀ {A : Ctx}, Le A C → (∀ b, A.X b → X' b) → Le A (C.turn (C.w.putObj l o) (C.js.set k s) X') := by
  have hsz : (C.w.putObj l o).heap.size = C.w.heap.size := by simp [World.putObj]
  have hk : ∀ b, ¬ C.av b → (C.w.putObj l o).heap[b]? = C.w.heap[b]? := fun b hb => World.putObj_heap_other fun e => hb (.inl (.inr ⟨k, r, e ▸ hl⟩))
  refine ⟨turn_good g hsz hX hk (fun n b h => World.putObj_heap_other ((g.lpX k l r hl).2 n b h)) (by simp) (fun k' l' r' s' h1 h2 => ?_), fun h => turn_vr hsz hX hk h, fun {A} hA hAX => ?_⟩
  · by_cases hk' : k' = k
    · subst hk'
      rw [hl] at h1
      cases h1
      have hlt : k' < C.js.length := by rw [g.lpn]; exact (List.getElem?_eq_some_iff.1 hl).1
      rw [List.getElem?_set_self hlt] at h2
      cases h2
      exact hs
    · rw [List.getElem?_set_ne (fun e => hk' e.symm)] at h2
      have hne : l' ≠ l := fun e => hk' (g.lpi k' k l r' r (e ▸ h1) hl)
      exact (g.lp k' l' r' s' h1 h2).mono (World.putObj_heap_other hne) (Nat.le_of_eq hsz.symm)
  · exact turn_le hA rfl rfl rfl hsz hX hAX hk fun b hb => World.putObj_heap_other fun e => (g.lpX k l r hl).1 (e ▸ hX b (hAX b hb))

/-! The ways back. -/
/-- A callee on an empty heap. -/
def Ctx.bare (C : Ctx) : Ctx := { w := C.w, β := C.β, get := fun _ => none, born := fun _ => False, X := C.av, lp := [], js := [] }
theorem bare_av {C : Ctx} (b : Nat) : C.bare.av b ↔ C.av b := by
  constructor
  · rintro ((h | ⟨k, r, h⟩) | ⟨n, blk, h, _⟩)
    · exact h
    · simp [Ctx.bare] at h
    · simp [Ctx.bare] at h
  · exact fun h => .inl (.inl h)
theorem bare_good {C : Ctx} (g : Good C) : Good C.bare where
  blk := fun n b h => by simp [Ctx.bare] at h
  inj := fun n m b c h => by simp [Ctx.bare] at h
  notX := fun n b h => by simp [Ctx.bare] at h
  born := fun n b h => by simp [Ctx.bare] at h
  xlt := fun b h => g.av_lt h
  lpn := rfl
  lp := fun k l r s h => by simp [Ctx.bare] at h
  lpX := fun k l r h => by simp [Ctx.bare] at h
  lpi := fun k m l r q h => by simp [Ctx.bare] at h
theorem bare_hr (C : Ctx) : HR C.bare .empty := ⟨fun n => rfl, fun n => ⟨fun h => h.elim, fun h => by simp [AHeap.empty] at h⟩, rfl⟩

theorem back_bare {C C1 : Ctx} (g : Good C) (g1 : Good C1) (hle : Le C.bare C1) : Back C C1 0 where
  os := hle.os
  tape := hle.tape
  output := hle.output
  size := hle.size
  xkeep := fun b hb => hle.xkeep b (.inl (.inl hb))
  keep := fun b hb hn => hle.keep b hb fun h => hn ((bare_av b).1 h)
  av := fun b hb => ⟨.inl (.inl (hle.X b hb)), fun n blk _ h e => g1.notX n blk h (e ▸ hle.X b hb)⟩
  low := fun n b h => by omega
  born := fun n h => by omega
  blk := fun n b h => .inl (hle.xkeep _ (.inr ⟨n, b, h, rfl⟩))
  lp := fun k l r s h1 h2 => (g.lp k l r s h1 h2).mono (hle.xkeep l (.inl (.inr ⟨k, r, h1⟩))) hle.size

theorem back_shared {C C1 : Ctx} {lo : Nat} {ys : List (Nat × LRec)} {H' : AHeap} (g : Good C) (hb : ∀ n, C.born n ↔ n < lo) (h : After C C1 lo [] H') : Back C C1 lo := by
  have low : ∀ n b, n < lo → C.get n = some b → C1.get n = some b ∧ C1.β n = C.β n := fun n b hn hg => by
    have h1 : C1.get n = some b := (h.low n hn).trans hg
    obtain ⟨b0, e1, e2, e3⟩ := h.le.ep n b ((hb n).2 hn) h1
    rw [hg] at e1
    cases e1
    exact ⟨h1, (e3 rfl).2.2⟩
  refine { os := h.le.os, tape := h.le.tape, output := h.le.output, size := h.le.size, xkeep := h.le.xkeep, keep := h.le.keep, av := fun b hb' => ?_, low, born := fun n hn => (hb n).2 hn, blk := fun n b hg => ?_, lp := fun k l r s h1 h2 => ?_ }
  · rcases hb' with (hx | ⟨k, r, hl⟩) | ⟨n, blk, hg, rfl⟩
    · exact ⟨.inl (.inl (h.le.X b hx)), fun n blk _ hn e => h.good.notX n blk hn (e ▸ h.le.X b hx)⟩
    · exact ⟨.inl (.inr ⟨k, r, h.le.lp _ _ hl⟩), fun n blk _ hn => (h.good.lpX k b r (h.le.lp _ _ hl)).2 n blk hn⟩
    · have hn : n < lo := (hb n).1 (g.born n blk hg)
      obtain ⟨e1, e2⟩ := low n blk hn hg
      refine ⟨.inr ⟨n, blk, e1, by rw [e2]⟩, fun m blk' hm hg' e => ?_⟩
      rw [← e2] at e
      have := h.good.inj m n blk' blk hg' e1 e
      omega
  · exact .inr ⟨(hb n).1 (g.born n b hg), fun m hm => (hb m).1 hm, h.le.lp⟩
  · have hk : k < C.js.length := (List.getElem?_eq_some_iff.1 h2).1
    exact h.good.lp k l r s (h.le.lp _ _ h1) ((h.js k hk (by simp)).trans h2)

/-- Values without names, for a callee on an empty heap. -/
theorem nf_rel {C : Ctx} {x : AV} {v : Value} (hx : nf x = true) (h : VR C x v) : VR C.bare x v := by
  have fr : ∀ {y : AV} {u : Value}, FR C.w C.av y u → VR C.bare y u := fun h => .fr (h.weak fun b hb => (bare_av b).1 hb)
  cases x with
  | v a => obtain ⟨rfl, hp⟩ := h.v_inv; exact .fr (.v hp)
  | sl sz es => exact fr h.sl_inv
  | e0 => obtain ⟨a, rfl⟩ := h.e0_inv; exact .fr (.e0 a)
  | fp cs => exact fr h.fp_inv
  | dead => exact .fr (.dead v)
  | fn f caps =>
    cases caps with
    | nil => obtain ⟨vs, rfl, hl, _⟩ := h.fn_inv; exact .fn f vs hl (by simp)
    | cons _ _ => simp [nf] at hx
  | agg cs =>
    simp only [nf, List.all_eq_true] at hx
    obtain ⟨vs, rfl, hl, h1, hr⟩ := h.agg_inv
    refine .agg vs hl h1 fun i hi => ?_
    have hi' := hr i hi
    have hm := hx (cs.getD i .dead) (by simp [List.getD_eq_getElem?_getD, hi])
    revert hi' hm
    generalize cs.getD i .dead = y
    generalize vs.getD i undef = u
    intro hi' hm
    split at hm
    · obtain ⟨rfl, hp⟩ := hi'.v_inv; exact .fr (.v hp)
    · exact fr hi'.sl_inv
    · obtain ⟨a, rfl⟩ := hi'.e0_inv; exact .fr (.e0 a)
    · exact fr hi'.fp_inv
    · exact .fr (.dead u)
    · obtain ⟨vs', rfl, hl', _⟩ := hi'.fn_inv; exact .fn _ vs' hl' (by simp)
    · cases hm
  | os _ _ _ _ => simp [nf] at hx
  | op _ _ _ _ => simp [nf] at hx
  | tup _ => simp [nf] at hx
  | yl _ => simp [nf] at hx

end Go.Am

namespace Go.Am

def Plan.quiet : Plan → Bool
  | .prim _ _ | .bad => true
  | _ => false
section
variable (E : Env)
@[simp] theorem quiet_val (x : AV) : (Plan.val x).quiet = true := rfl
@[simp] theorem quiet_opt (x : Option AV) : (Plan.opt x).quiet = true := rfl
@[simp] theorem quiet_live (n e : Nat) (x : AV) : (live n e x).quiet = true := rfl
@[simp] theorem quiet_prim (rd : List Nat) (k : List Blk → Option Eff) : (Plan.prim rd k).quiet = true := rfl
@[simp] theorem quiet_bad : Plan.bad.quiet = true := rfl
@[simp] theorem quiet_srd (x : AV) (k : Nat → List (List AV) → Option Eff) : (srd x k).quiet = true := by unfold srd; split <;> rfl
@[simp] theorem quiet_eqPlan (t : TypeId) (neg : Bool) (x y : AV) : (eqPlan E t neg x y).quiet = true := by
  unfold eqPlan
  try dsimp only
  repeat' split
  all_goals first | rfl | simp
@[simp] theorem quiet_binOpA (op : BinOp) (t : TypeId) (xo yo : Operand) (x y : AV) : (binOpA E op t xo yo x y).quiet = true := by
  unfold binOpA
  try dsimp only
  repeat' split
  all_goals first | rfl | simp
@[simp] theorem quiet_convA (s d : TypeId) (x : AV) : (convA E s d x).quiet = true := by
  unfold convA
  try dsimp only
  repeat' split
  all_goals first | rfl | simp
@[simp] theorem quiet_sliceA (t : TypeId) (x : AV) (lo hi mx : Option AV) : (sliceA E t x lo hi mx).quiet = true := by
  unfold sliceA
  try dsimp only
  repeat' split
  all_goals first | rfl | simp
@[simp] theorem quiet_appendA (t : TypeId) (s x : AV) : (appendA E t s x).quiet = true := by
  unfold appendA
  try dsimp only
  repeat' split
  all_goals first | rfl | simp
@[simp] theorem quiet_copyA (t : TypeId) (s x : AV) : (copyA E t s x).quiet = true := by
  unfold copyA
  try dsimp only
  repeat' split
  all_goals first | rfl | simp
@[simp] theorem quiet_builtinA (b : Builtin) (ts : Array TypeId) (t : TypeId) (xs : List AV) : (builtinA E b ts t xs).quiet = true := by
  unfold builtinA
  try dsimp only
  repeat' split
  all_goals first | rfl | simp
end

theorem plan_loud {E : Env} {o : Oper} {ρ : Operand → AV} (h : (plan E o ρ).quiet = false) :
    ∃ c fo, o.op = .call c ∧ c.callee = .value fo ∧ ((∃ f caps, ρ fo = .fn f caps ∧ plan E o ρ = .call f (c.args.toList.map ρ ++ caps)) ∨ ∃ k, ρ fo = .yl k ∧ plan E o ρ = .yield k (c.args.toList.map ρ)) := by
  cases ho : o.op with
  | call c =>
    cases hc : c.callee with
    | value fo =>
      refine ⟨c, fo, rfl, hc, ?_⟩
      simp only [plan, ho, hc] at h ⊢
      cases hf : ρ fo <;> simp_all
    | invoke r m => simp [plan, ho, hc] at h
    | builtin b => simp [plan, ho, hc] at h
  | next it b =>
    exfalso
    cases b <;> simp only [plan, ho] at h <;> revert h <;> (repeat' split) <;> (intro h; cases h; done)
  | _ =>
    exfalso
    simp only [plan, ho] at h
    revert h
    repeat' split
    all_goals first | (intro h; cases h; done) | simp

section
variable {E : Env} {C : Ctx} {o : Oper} {c : Call} {fo : Operand} {ρ : Operand → AV} {ev : Operand → Value}

theorem run_call {P : Program} (ho : o.op = .call c) (hc : c.callee = .value fo) {f : FuncId} {caps : Array Value} (hf : ev fo = .func (.func f) #[] caps) (w : World) :
    (execOp ev o).run P w = (callFunc f (c.args.map ev ++ caps)).run P w := by
  simp [execOp, ho, resolve, hc, hf, Deferred.ofValue, invoke]
theorem run_callYield {P : Program} (ho : o.op = .call c) (hc : c.callee = .value fo) {l : Nat} (hf : ev fo = .func (.yield l) #[] #[]) (w : World) :
    (execOp ev o).run P w = (Instr.yield l (c.args.map ev)).run P w := by
  simp [execOp, ho, resolve, hc, hf, Deferred.ofValue, invoke]

theorem args_rel (c : Call) (h : ∀ x ∈ c.args, VR C (ρ x) (ev x)) : ARel C (c.args.toList.map ρ) (c.args.map ev) := by
  refine ⟨by simp, fun i hi => ?_⟩
  have hi' : i < c.args.size := by simpa using hi
  have := h c.args[i] (by simp)
  simpa [List.getD_eq_getElem?_getD, Array.getD_eq_getD_getElem?, hi'] using this
theorem ARel.append {xs ys : List AV} {vs us : Array Value} (h : ARel C xs vs) (k : ∀ i, i < ys.length → VR C (ys.getD i .dead) (us.getD i undef)) (hl : us.size = ys.length) : ARel C (xs ++ ys) (vs ++ us) := by
  refine ⟨by simp [h.1, hl], fun i hi => ?_⟩
  rw [List.length_append] at hi
  rw [getD_append]
  have e : (vs ++ us).getD i undef = if i < xs.length then vs.getD i undef else us.getD (i - xs.length) undef := by
    simp only [Array.getD_eq_getD_getElem?]
    split
    · rename_i h1; rw [Array.getElem?_append_left (by rw [h.1]; exact h1)]
    · rename_i h1; rw [Array.getElem?_append_right (by rw [h.1]; omega), h.1]
  rw [e]
  split
  · rename_i h1; exact h.2 i h1
  · exact k _ (by omega)
end

end Go.Am
