/- One operation of a region; the operations in order. -/
import Derived.Test.YtoeemmlfcnokiaaGreatAmRun9
set_option linter.all false
set_option linter.deprecated false
namespace Go.Am

section
variable {E : Env} {go : Run} {ys : List (Nat × LRec)} {lo : Nat} {H H' : AHeap} {x : AV} {tr : Tr} {o : Oper} {ρ : Operand → AV} {n : Nat}

theorem runPlan_goes (hE : ProgOK E) (hgo : GoOK E go) (h : runPlan E (callF E go ys lo) lo H (plan E o ρ) = some (x, H', tr)) :
    Leaves H H' tr ∧ ∀ (C : Ctx) (a : Act) (F : Fence) (rd : Bool), Good C → Agrees C H tr → (∀ m, m < lo → C.born m) → (∃ m, ¬ C.born m) → YRel C ys → (∀ y ∈ o.op.operands, VR C (ρ y) (a.eval y)) → FenceOK rd F → OpGoes E C lo ys H' tr x F n o a := by
  cases hp : plan E o ρ with
  | bad => rw [hp] at h; cases h
  | prim rdl k =>
    rw [hp] at h
    refine ⟨(prim_goes (C := ⟨default, fun _ => (0, 0, 0), fun _ => none, fun _ => False, fun _ => False, [], []⟩) (a := ⟨#[], []⟩) (F := Fence.wide) (n := 0) (rd := false) hE.toEnvOK hp h).1, fun C a F rd g hA hlow hfr _ hop hF => (prim_goes hE.toEnvOK hp h).2 g hA hlow hfr hop hF⟩
  | yield k args =>
    obtain ⟨c, fo, ho, hc, hh⟩ := plan_loud (E := E) (o := o) (ρ := ρ) (by rw [hp]; rfl)
    rcases hh with ⟨f, caps, _, he⟩ | ⟨k', hfo, he⟩
    · rw [hp] at he; cases he
    · rw [hp] at he
      cases he
      rw [hp] at h
      simp only [runPlan] at h
      split at h
      · cases h
      · rename_i r H1 hy
        simp only [Option.some.injEq, Prod.mk.injEq] at h
        obtain ⟨rfl, rfl, rfl⟩ := h
        refine ⟨⟨fun m _ hm => absurd rfl hm, fun hm => absurd rfl hm⟩, fun C a F rd g hA hlow hfr hys hop hF => ?_⟩
        have hop' : ∀ y ∈ c.operands, VR C (ρ y) (a.eval y) := fun y hy => hop y (by rw [ho]; exact hy)
        exact yield_goes hgo hF ho hc hy g (hA.hr (by simp)) hlow hys (hfo ▸ hop' fo (by simp [Call.operands, hc])) (args_rel c fun y hy => hop' y (by simp [Call.operands, hy]))
  | call f args =>
    obtain ⟨c, fo, ho, hc, hh⟩ := plan_loud (E := E) (o := o) (ρ := ρ) (by rw [hp]; rfl)
    rcases hh with ⟨f', caps, hfo, he⟩ | ⟨k', _, he⟩
    · rw [hp] at he
      cases he
      rw [hp] at h
      have hvals : ∀ (C : Ctx) (a : Act), (∀ y ∈ o.op.operands, VR C (ρ y) (a.eval y)) → ∃ vs : Array Value, a.eval fo = .func (.func f) #[] vs ∧ ARel C (c.args.toList.map ρ ++ caps) (c.args.map a.eval ++ vs) := fun C a hop => by
        have hop' : ∀ y ∈ c.operands, VR C (ρ y) (a.eval y) := fun y hy => hop y (by rw [ho]; exact hy)
        obtain ⟨vs, e1, e2, e3⟩ := (hfo ▸ hop' fo (by simp [Call.operands, hc])).fn_inv
        exact ⟨vs, e1, (args_rel c fun y hy => hop' y (by simp [Call.operands, hy])).append e3 e2⟩
      have shared : ∀ (own : Bool), ((if (c.args.toList.map ρ ++ caps).all nf then match (callF E go ys lo).call false 0 f (c.args.toList.map ρ ++ caps) .empty with
            | none => none
            | some (r, H') => match hand H' 0 own H r with
              | none => none
              | some (r, G) => fNat (newBits H.next (G.next - H.next)) fun m => some (r, G, (⟨0, m, 0⟩ : Tr))
          else match (callF E go ys lo).call false H.next f (c.args.toList.map ρ ++ caps) H with
            | none => none
            | some (r, H') => match hand H' H.next own H r with
              | none => none
              | some (r, G) => fNat (newBits H.next (G.next - H.next)) fun m => some (r, G, (⟨0, m, 1⟩ : Tr))) = some (x, H', tr)) →
          Leaves H H' tr ∧ ∀ (C : Ctx) (a : Act) (F : Fence) (rd : Bool), Good C → Agrees C H tr → (∀ m, m < lo → C.born m) → (∃ m, ¬ C.born m) → YRel C ys → (∀ y ∈ o.op.operands, VR C (ρ y) (a.eval y)) → FenceOK rd F → OpGoes E C lo ys H' tr x F n o a := by
        intro own h
        split at h
        · rename_i hnf
          split at h
          · cases h
          · rename_i r H1 hcall
            split at h
            · cases h
            · rename_i r' G hhand
              rw [fNat_eq] at h
              simp only [Option.some.injEq, Prod.mk.injEq] at h
              obtain ⟨rfl, rfl, rfl⟩ := h
              refine ⟨hand_leaves hhand, fun C a F rd g hA hlow hfr hys hop hF => ?_⟩
              obtain ⟨vs, e1, e2⟩ := hvals C a hop
              obtain ⟨k1, k2⟩ := call_ok hgo hcall (bare_good g) (bare_hr C) (Nat.zero_le _) (nf_args e2 hnf) (YRel.nil _) F.plain hF.plain (n - 1)
              refine call_goes hE hF ho hc e1 ⟨(callsIn_plain k1).mono ?_, k2⟩
              rintro e w' ⟨v, rfl, C1, rfl, hA1, _, hv⟩
              obtain ⟨C2, h1, h2, h3⟩ := hand_did (lo := lo) (ys := ys) hhand (.inl rfl) g hA1.good (back_bare g hA1.good hA1.le) hA1.hr.get hA hlow hv
              exact ⟨v, rfl, C2, h1, h2, h3⟩
        · split at h
          · cases h
          · rename_i r H1 hcall
            split at h
            · cases h
            · rename_i r' G hhand
              rw [fNat_eq] at h
              simp only [Option.some.injEq, Prod.mk.injEq] at h
              obtain ⟨rfl, rfl, rfl⟩ := h
              refine ⟨hand_leaves hhand, fun C a F rd g hA hlow hfr hys hop hF => ?_⟩
              obtain ⟨vs, e1, e2⟩ := hvals C a hop
              have hH : HR C H := hA.hr (by simp)
              obtain ⟨k1, k2⟩ := call_ok hgo hcall g hH (Nat.le_refl _) e2 (YRel.nil _) F.plain hF.plain (n - 1)
              refine call_goes hE hF ho hc e1 ⟨(callsIn_plain k1).mono ?_, k2⟩
              rintro e w' ⟨v, rfl, C1, rfl, hA1, _, hv⟩
              obtain ⟨C2, h1, h2, h3⟩ := hand_did (lo := lo) (ys := ys) hhand (.inr rfl) g hA1.good (back_shared (ys := []) g hH.born hA1) hA1.hr.get hA hlow hv
              exact ⟨v, rfl, C2, h1, h2, h3⟩
      simp only [runPlan] at h
      split at h
      · split at h
        · cases h
        · rename_i r H1 hcall
          simp only [Option.some.injEq, Prod.mk.injEq] at h
          obtain ⟨rfl, rfl, rfl⟩ := h
          refine ⟨⟨fun m _ hm => absurd rfl hm, fun hm => absurd rfl hm⟩, fun C a F rd g hA hlow hfr hys hop hF => ?_⟩
          obtain ⟨vs, e1, e2⟩ := hvals C a hop
          obtain ⟨k1, k2⟩ := call_ok hgo hcall g (hA.hr (by simp)) ((hA.hr (by simp)).le_next hlow) e2 hys F.plain hF.plain (n - 1)
          refine call_goes hE hF ho hc e1 ⟨(callsIn_plain k1).mono ?_, k2⟩
          rintro e w' ⟨v, rfl, C1, rfl, hA1, hX, hv⟩
          exact ⟨v, rfl, C1, rfl, Did.of_after hA1 hX, hv⟩
      · exact shared _ h
    · rw [hp] at he; cases he

/-- An operation of a region goes through. -/
def StepGoes (E : Env) (ops : Array Oper) (o : Oper) (s s' : St) (tr : Tr) (lo : Nat) (ys : List (Nat × LRec)) : Prop :=
  Leaves s.H s'.H tr ∧ s'.tm.n = s.tm.n ∧ ∃ x, (∀ u, s'.tm.get u = if o.dst = some u ∧ u < s.tm.n then x else s.tm.get u) ∧
    ∀ (C : Ctx) (a : Act) (F : Fence) (rd : Bool) (n : Nat), Good C → Agrees C s.H tr → (∀ m, m < lo → C.born m) → (∃ m, ¬ C.born m) → YRel C ys → (∀ t ∈ namesOp ops.toList o, VR C (s.tm.get t) (a.tmps.getD t undef)) → FenceOK rd F →
    ∀ (K : Act → World → Prop) (Q : Exit → Act → World → Prop), (∀ C' v, Did C C' lo ys s'.H tr → VR C' x v → K (a.put o.dst v) C'.w) →
      if Region.wanted o (yielded ops a.tmps) = true then o.wpIn F n E.P a C.w K Q else (∀ f, o.about E.P C.w a.eval = some f → F.fn f) ∧ K (a.put o.dst undef) C.w

theorem Did.refl {C : Ctx} (g : Good C) (lo : Nat) (ys : List (Nat × LRec)) (H' : AHeap) : Did C C lo ys H' ⟨0, 0, 0⟩ :=
  ⟨.refl C, g, rfl, fun n h => by simp at h, fun _ _ _ => ⟨rfl, Iff.rfl⟩, fun h => by simp at h, fun _ => rfl, fun _ _ => rfl, fun _ _ _ => rfl⟩

theorem putS_ok {R : Type} {tm : Slots} {dst : Option Tmp} {x : AV} {k : Slots → Option R} {r : R} (h : putS tm dst x k = some r) :
    ∃ tm', k tm' = some r ∧ tm'.n = tm.n ∧ ∀ u, tm'.get u = if dst = some u ∧ u < tm.n then x else tm.get u := by
  cases dst with
  | none => exact ⟨tm, h, rfl, fun u => by simp⟩
  | some d =>
    obtain ⟨tm', h1, h2, h3⟩ := Slots.set_ok h
    refine ⟨tm', h1, h2, fun u => ?_⟩
    rw [h3]
    by_cases hd : d = u
    · subst hd; simp
    · rw [if_neg (fun e => hd e.2.symm), if_neg (fun e => hd (by simpa using e.1))]

theorem stepOp_goes (hE : ProgOK E) (hgo : GoOK E go) {ops : Array Oper} {s s' : St} (h : stepOp E (callF E go ys lo) lo ops.toList o s = some (s', tr)) : StepGoes E ops o s s' tr lo ys := by
  unfold stepOp at h
  split at h
  · cases h
  · rename_i hw
    obtain ⟨tm', h1, h2, h3⟩ := putS_ok h
    simp only [Option.some.injEq, Prod.mk.injEq] at h1
    obtain ⟨rfl, rfl⟩ := h1
    refine ⟨⟨fun _ _ _ => ⟨rfl, Iff.rfl⟩, fun _ => rfl⟩, h2, _, h3, fun C a F rd n g hA hlow hfr hys hnm hF K Q hK => ?_⟩
    rw [wanted_rel hw hnm]
    simp only [Bool.false_eq_true, if_false]
    exact ⟨fun f _ => hF.1 f, hK C undef (.refl g _ _ _) vr_undef⟩
  · rename_i hw
    split at h
    · cases h
    · rename_i x H' tr' hrun
      obtain ⟨tm', h1, h2, h3⟩ := putS_ok h
      simp only [Option.some.injEq, Prod.mk.injEq] at h1
      obtain ⟨rfl, rfl⟩ := h1
      refine ⟨(runPlan_goes (n := 0) hE hgo hrun).1, h2, _, h3, fun C a F rd n g hA hlow hfr hys hnm hF K Q hK => ?_⟩
      rw [wanted_rel hw hnm]
      simp only [if_true]
      refine (runPlan_goes (n := n) hE hgo hrun).2 C a F rd g hA hlow hfr hys (fun y hy => aev_rel y fun t ht => hnm t ?_) hF K Q hK
      subst ht
      simp only [namesOp, List.append_assoc, List.mem_append]
      exact .inr (.inl (List.mem_filterMap.2 ⟨.tmp t, by simpa using hy, rfl⟩))
end

theorem Agrees.of_hr {C : Ctx} {H : AHeap} (h : HR C H) (tr : Tr) : Agrees C H tr := ⟨fun n _ => ⟨h.get n, h.born n⟩, fun _ => h.js⟩
theorem HR.fresh {C : Ctx} {H : AHeap} (h : HR C H) : ∃ m, ¬ C.born m := ⟨H.next, fun hb => Nat.lt_irrefl _ ((h.born _).1 hb)⟩
theorem Did.hr {C C' : Ctx} {lo : Nat} {ys : List (Nat × LRec)} {H H' : AHeap} {tr : Tr} (hL : Leaves H H' tr) (hH : HR C H) (d : Did C C' lo ys H' tr) : HR C' H' := by
  refine ⟨fun n => ?_, fun n => ?_, ?_⟩
  · by_cases hw : tr.wr.testBit n = true ∨ tr.all = 2
    · exact (d.get n hw).1
    · simp only [not_or, Bool.not_eq_true] at hw
      rw [(d.same n hw.1 hw.2).1, hH.get, (hL.get n hw.1 hw.2).1]
  · by_cases hw : tr.wr.testBit n = true ∨ tr.all = 2
    · exact (d.get n hw).2
    · simp only [not_or, Bool.not_eq_true] at hw
      rw [(d.same n hw.1 hw.2).2, hH.born, (hL.get n hw.1 hw.2).2]
  · by_cases h2 : tr.all = 2
    · exact d.js2 h2
    · rw [d.js h2, hH.js, hL.js h2]
theorem Did.after {C C' : Ctx} {lo : Nat} {ys : List (Nat × LRec)} {H H' : AHeap} {tr : Tr} (hL : Leaves H H' tr) (hH : HR C H) (d : Did C C' lo ys H' tr) : After C C' lo ys H' :=
  ⟨d.le, d.good, d.hr hL hH, d.low, d.jsk⟩

theorem put_tr {C C' : Ctx} (hle : Le C C') {tm tm' : Slots} {a : Act} {dst : Option Tmp} {x : AV} {v : Value} (h : TR C tm a.tmps) (hv : VR C' x v) (hn : tm'.n = tm.n) (hg : ∀ u, tm'.get u = if dst = some u ∧ u < tm.n then x else tm.get u) :
    TR C' tm' (a.put dst v).tmps := by
  cases dst with
  | none =>
    refine ⟨hn.trans h.1, fun t => ?_⟩
    rw [hg t, if_neg (by simp)]
    exact (h.2 t).mono hle
  | some d =>
    refine (h.mono hle).set hv hn fun u => ?_
    rw [hg u]
    by_cases hd : d = u
    · subst hd; simp
    · rw [if_neg (fun e => hd (by simpa using e.1)), if_neg (fun e => hd e.2.symm)]
theorem put_defers (a : Act) (dst : Option Tmp) (v : Value) : (a.put dst v).defers = a.defers := by cases dst <;> rfl

/-- The operations in order. -/
theorem runOps_goes {E : Env} {go : Run} {ys : List (Nat × LRec)} {lo : Nat} (hE : ProgOK E) (hgo : GoOK E go) {ops : Array Oper} {F : Fence} {rd : Bool} {n : Nat} (hF : FenceOK rd F) (Q : Exit → Act → World → Prop) (rest : List Oper) :
    ∀ (i : Nat) (s s' : St) (trs : List Tr) (C : Ctx) (a : Act), rest = ops.toList.drop i → runOps E (callF E go ys lo) lo ops.toList rest s = some (s', trs) → Good C → HR C s.H → TR C s.tm a.tmps → YRel C ys → lo ≤ s.H.next →
      (∀ C' a', After C C' lo ys s'.H → TR C' s'.tm a'.tmps → a'.defers = a.defers → Q .normal a' C'.w) → wpOpsIn F n E.P ops Q (List.range' i rest.length) a C.w := by
  induction rest with
  | nil =>
    intro i s s' trs C a _ h g hH hT _ _ hQ
    simp only [runOps, Option.some.injEq, Prod.mk.injEq] at h
    obtain ⟨rfl, rfl⟩ := h
    exact hQ C a (.refl g hH) hT rfl
  | cons o rest ih =>
    intro i s s' trs C a hrest h g hH hT hY hlo hQ
    simp only [runOps] at h
    split at h
    · cases h
    rename_i s1 tr1 h1
    split at h
    · cases h
    rename_i s2 trs2 h2
    simp only [Option.some.injEq, Prod.mk.injEq] at h
    obtain ⟨rfl, rfl⟩ := h
    have hi : i < ops.toList.length := by
      rcases Nat.lt_or_ge i ops.toList.length with h | h
      · exact h
      · rw [List.drop_eq_nil_of_le h] at hrest; cases hrest
    have hd := List.drop_eq_getElem_cons hi
    rw [← hrest] at hd
    obtain ⟨rfl, hrest'⟩ := List.cons.inj hd
    have ho : ops[i]? = some ops.toList[i] := by simp at hi ⊢
    obtain ⟨hL, hn, x, hg, hgoes⟩ := stepOp_goes hE hgo h1
    simp only [List.length_cons, List.range'_succ, wpOpsIn, ho]
    refine hgoes C a F rd n g (.of_hr hH tr1) (fun m hm => (hH.born m).2 (by omega)) hH.fresh hY (fun t _ => hT.2 t) hF _ _ fun C' v d hv => ?_
    have hA := d.after hL hH
    refine ih (i + 1) s1 s2 trs2 C' _ hrest' h2 d.good (d.hr hL hH) (put_tr d.le hT hv hn hg) (hY.mono d.le) ?_ fun C'' a'' hA' hT'' hd'' => ?_
    · rcases Nat.lt_or_ge s1.H.next lo with h | h
      · have : C'.born s1.H.next := d.le.born _ ((hH.born _).2 (by omega))
        exact absurd (((d.hr hL hH).born _).1 this) (Nat.lt_irrefl _)
      · exact h
    · exact hQ C'' a'' (hA.trans g hA') hT'' (hd''.trans (put_defers _ _ _))

end Go.Am
