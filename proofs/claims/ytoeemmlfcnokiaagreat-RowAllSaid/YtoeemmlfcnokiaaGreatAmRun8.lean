/- One operation: what its run says of it. -/
import Derived.Test.YtoeemmlfcnokiaaGreatAmRun7
set_option linter.all false
set_option linter.deprecated false
namespace Go.Am

theorem testBit_pow (n m : Nat) : (Nat.pow 2 n).testBit m = decide (m = n) := by
  rw [show Nat.pow 2 n = 2 ^ n from rfl, Nat.testBit_two_pow]
  exact decide_eq_decide.2 ⟨Eq.symm, Eq.symm⟩
theorem testBit_pow' (n m : Nat) : (2 ^ n).testBit m = decide (m = n) := testBit_pow n m
theorem bitsOf_test (l : List Nat) (n : Nat) : (bitsOf l).testBit n = decide (n ∈ l) := by
  induction l with
  | nil => simp [bitsOf]
  | cons m r ih =>
    have : Nat.lor (Nat.pow 2 m) (bitsOf r) = Nat.pow 2 m ||| bitsOf r := rfl
    simp only [bitsOf, this, Nat.testBit_or, testBit_pow, ih, List.mem_cons, Bool.decide_or]
theorem newBits_test (base k n : Nat) : (newBits base k).testBit n = decide (base ≤ n ∧ n < base + k) := by
  have e : newBits base k = 2 ^ base * (2 ^ k - 1) := rfl
  rw [e, Nat.testBit_two_pow_mul]
  simp only [Nat.testBit_two_pow_sub_one]
  by_cases h : base ≤ n
  · simp only [h, decide_true, Bool.true_and, true_and]
    exact decide_eq_decide.2 (by omega)
  · simp [h]

theorem look_put (l : List (Nat × Blk)) (n : Nat) (b : Blk) (m : Nat) : look (putB l n b) m = if m = n then some b else look l m := by
  induction l with
  | nil =>
    simp only [putB, look]
    by_cases h : n = m
    · rw [if_pos h, if_pos h.symm]
    · rw [if_neg h, if_neg fun e => h e.symm]
  | cons x r ih =>
    obtain ⟨k, c⟩ := x
    simp only [putB]
    by_cases hk : k = n
    · subst hk
      rw [if_pos rfl]
      simp only [look]
      by_cases h : k = m
      · rw [if_pos h, if_pos h.symm]
      · rw [if_neg h, if_neg fun e => h e.symm, if_neg h]
    · rw [if_neg hk]
      simp only [look, ih]
      by_cases h : k = m
      · rw [if_pos h, if_pos h, if_neg (fun e => hk (h.trans e))]
      · rw [if_neg h, if_neg h]

def touches (tr : Tr) (n : Nat) : Prop := tr.rd.testBit n = true ∨ tr.wr.testBit n = true ∨ tr.all ≠ 0

/-- The context's state, where the operation touches it. -/
structure Agrees (C : Ctx) (H : AHeap) (tr : Tr) : Prop where
  get : ∀ n, touches tr n → C.get n = H.get n ∧ (C.born n ↔ n < H.next)
  js : tr.all ≠ 0 → C.js = H.js
/-- What the operation leaves as it is. -/
structure Leaves (H H' : AHeap) (tr : Tr) : Prop where
  get : ∀ n, tr.wr.testBit n = false → tr.all ≠ 2 → H'.get n = H.get n ∧ (n < H'.next ↔ n < H.next)
  js : tr.all ≠ 2 → H'.js = H.js
/-- What the operation did. -/
structure Did (C C' : Ctx) (lo : Nat) (ys : List (Nat × LRec)) (H' : AHeap) (tr : Tr) : Prop where
  le : Le C C'
  good : Good C'
  X : C'.X = C.X
  get : ∀ n, tr.wr.testBit n = true ∨ tr.all = 2 → C'.get n = H'.get n ∧ (C'.born n ↔ n < H'.next)
  same : ∀ n, tr.wr.testBit n = false → tr.all ≠ 2 → C'.get n = C.get n ∧ (C'.born n ↔ C.born n)
  js2 : tr.all = 2 → C'.js = H'.js
  js : tr.all ≠ 2 → C'.js = C.js
  low : ∀ n, n < lo → C'.get n = C.get n
  jsk : ∀ (k : Nat), k < C.js.length → (∀ p ∈ ys, p.1 ≠ k) → C'.js[k]? = C.js[k]?

theorem Agrees.hr {C : Ctx} {H : AHeap} {tr : Tr} (h : Agrees C H tr) (hall : tr.all ≠ 0) : HR C H :=
  ⟨fun n => (h.get n (.inr (.inr hall))).1, fun n => (h.get n (.inr (.inr hall))).2, h.js hall⟩

theorem Did.of_after {C C' : Ctx} {lo : Nat} {ys : List (Nat × LRec)} {H' : AHeap} (h : After C C' lo ys H') (hX : C'.X = C.X) : Did C C' lo ys H' ⟨0, 0, 2⟩ :=
  ⟨h.le, h.good, hX, fun n _ => ⟨h.hr.get n, h.hr.born n⟩, fun n _ h => absurd rfl h, fun _ => h.hr.js, fun h => absurd rfl h, h.low, h.js⟩

/-- An operation that goes through, in a fence. -/
def OpGoes (E : Env) (C : Ctx) (lo : Nat) (ys : List (Nat × LRec)) (H' : AHeap) (tr : Tr) (x : AV) (F : Fence) (n : Nat) (o : Oper) (a : Act) : Prop :=
  ∀ (K : Act → World → Prop) (Q : Exit → Act → World → Prop), (∀ C' v, Did C C' lo ys H' tr → VR C' x v → K (a.put o.dst v) C'.w) → o.wpIn F n E.P a C.w K Q

section
variable {E : Env} {go : Run} {ys : List (Nat × LRec)} {lo : Nat} {H H' : AHeap} {x : AV} {tr : Tr} {C : Ctx} {o : Oper} {ρ : Operand → AV} {a : Act} {F : Fence} {n : Nat} {rd : Bool}

theorem Oper.wpIn_of {K : Act → World → Prop} {Q : Exit → Act → World → Prop} (hF : FenceOK rd F) (hd : ∀ c, o.op ≠ .defer c) {w : World} (h : o.uponIn F n E.P a K Q ((execOp a.eval o).run E.P w)) : o.wpIn F n E.P a w K Q := by
  refine ⟨fun f _ => hF.1 f, ?_⟩
  rw [Oper.semAt_eq F.round a.eval o hd]
  exact h

theorem prim_goes (hE : EnvOK E) {rdl : List Nat} {k : List Blk → Option Eff} (hp : plan E o ρ = .prim rdl k) (h : runPlan E (callF E go ys lo) lo H (.prim rdl k) = some (x, H', tr)) :
    Leaves H H' tr ∧ (Good C → Agrees C H tr → (∀ m, m < lo → C.born m) → (∃ m, ¬ C.born m) → (∀ y ∈ o.op.operands, VR C (ρ y) (a.eval y)) → FenceOK rd F → OpGoes E C lo ys H' tr x F n o a) := by
  have hdef : ∀ c, o.op ≠ .defer c := fun c hc => by simp [plan, hc] at hp
  simp only [runPlan] at h
  rw [getAll_eq] at h
  cases hbs : rdl.mapM H.get with
  | none => rw [hbs] at h; cases h
  | some bs =>
    rw [hbs] at h
    simp only at h
    cases hk : k bs with
    | none => rw [hk] at h; cases h
    | some ef =>
      rw [hk] at h
      have key : Good C → (∀ m, m ∈ rdl → C.get m = H.get m) → (∀ y ∈ o.op.operands, VR C (ρ y) (a.eval y)) → EffOK E.P C o a.eval ef := fun g hget hop => by
        let ρ' : Operand → AV := fun y => open Classical in if y ∈ o.op.operands then ρ y else .dead
        have e1 : plan E o ρ' = plan E o ρ := plan_congr fun y hy => by simp only [ρ', if_pos hy]
        refine prim_ok (ρ := ρ') hE g (fun y => ?_) (e1.trans hp) (bs := bs) ?_ hk
        · by_cases hy : y ∈ o.op.operands
          · simp only [ρ', if_pos hy]; exact hop y hy
          · simp only [ρ', if_neg hy]; exact .fr (.dead _)
        · rw [← hbs]
          clear hbs hk hp h e1
          induction rdl with
          | nil => rfl
          | cons m r ih => rw [List.mapM_cons, List.mapM_cons, hget m (by simp), ih fun m hm => hget m (by simp [hm])]
      have fin : ∀ {nm : Nat}, Good C → ¬ C.born nm → EffOK E.P C o a.eval ef → FenceOK rd F →
          (∀ C' v, Le C C' → Good C' → C'.get = ef.get nm C.get → (C'.born, C'.lp, C'.js, C'.X) = (ef.born nm C.born, C.lp, C.js, C.X) → VR C' (ef.val nm) v → Did C C' lo ys H' tr ∧ VR C' x v) → OpGoes E C lo ys H' tr x F n o a := by
        intro nm g hnm hef hF hc K Q hK
        obtain ⟨C', v, h1, h2, h3, h4, h5, h6⟩ := hef nm hnm
        obtain ⟨d1, d2⟩ := hc C' v h1 h2 h3 h4 h6
        refine Oper.wpIn_of hF hdef ?_
        rcases h5 with h5 | ⟨h5, rfl⟩
        · rw [h5]; exact hK C' v d1 d2
        · rw [h5]; exact hK C' undef d1 d2
      cases ef with
      | none y =>
        simp only [fA_eq, fNat_eq, Option.some.injEq, Prod.mk.injEq] at h
        obtain ⟨rfl, rfl, rfl⟩ := h
        refine ⟨⟨fun _ _ _ => ⟨rfl, Iff.rfl⟩, fun _ => rfl⟩, fun g hA _ hnm hop hF => ?_⟩
        obtain ⟨nm, hnm⟩ := hnm
        refine fin g hnm (key g (fun m hm => (hA.get m (.inl (by simp [bitsOf_test, hm]))).1) hop) hF fun C' v h1 h2 h3 h4 h6 => ?_
        simp only [Prod.mk.injEq] at h4
        obtain ⟨b1, b2, b3, b4⟩ := h4
        exact ⟨⟨h1, h2, b4, fun m hm => by simp at hm, fun m _ _ => ⟨by rw [h3]; rfl, by rw [b1]; rfl⟩, fun h => by simp at h, fun _ => b3, fun m _ => by rw [h3]; rfl, fun k _ _ => by rw [b3]⟩, h6⟩
      | set m b y =>
        simp only [fA_eq, fNat_eq, fBlk_eq, fPut_eq] at h
        split at h
        · rename_i hc
          simp only [Bool.and_eq_true, Nat.ble_eq, List.any_eq_true, Nat.beq_eq_true_eq] at hc
          obtain ⟨hlo, m', hm', hmm⟩ := hc
          have hmm : m = m' := by simpa using hmm
          subst hmm
          simp only [Option.some.injEq, Prod.mk.injEq] at h
          obtain ⟨rfl, rfl, rfl⟩ := h
          have hl : ∀ j, (⟨putB H.l m b, H.next, H.js⟩ : AHeap).get j = if j = m then some b else H.get j := fun j => look_put _ _ _ _
          refine ⟨⟨fun j hj _ => ?_, fun _ => rfl⟩, fun g hA hlow hnm hop hF => ?_⟩
          · rw [hl, if_neg (by simpa [testBit_pow'] using hj)]
            exact ⟨rfl, Iff.rfl⟩
          · obtain ⟨nm, hnm⟩ := hnm
            refine fin g hnm (key g (fun j hj => (hA.get j (.inl (by simp [bitsOf_test, hj]))).1) hop) hF fun C' v h1 h2 h3 h4 h6 => ?_
            simp only [Prod.mk.injEq] at h4
            obtain ⟨b1, b2, b3, b4⟩ := h4
            refine ⟨⟨h1, h2, b4, fun j hj => ?_, fun j hj _ => ?_, fun h => by simp at h, fun _ => b3, fun j hj => ?_, fun k _ _ => by rw [b3]⟩, h6⟩
            · have hj : j = m := by simpa [testBit_pow'] using hj
              subst hj
              rw [hl, if_pos rfl, h3, b1]
              exact ⟨by simp [Eff.get, upd_same], (hA.get j (.inr (.inl (by simp)))).2⟩
            · have hj : j ≠ m := by simpa [testBit_pow'] using hj
              rw [h3, b1]
              exact ⟨by simp [Eff.get, upd_other _ _ hj], Iff.rfl⟩
            · rw [h3]
              simp [Eff.get, upd_other _ _ (show j ≠ m by omega)]
        · cases h
      | new b y =>
        obtain ⟨l, nx, js⟩ := H
        simp only [fA_eq, fNat_eq, fBlk_eq, Option.some.injEq, Prod.mk.injEq] at h
        obtain ⟨rfl, rfl, rfl⟩ := h
        have hl : ∀ j, (⟨(nx, b) :: l, nx + 1, js⟩ : AHeap).get j = if j = nx then some b else (⟨l, nx, js⟩ : AHeap).get j := fun j => push_get ⟨l, nx, js⟩ b j
        refine ⟨⟨fun j hj _ => ?_, fun _ => rfl⟩, fun g hA hlow hnm hop hF => ?_⟩
        · have hj : j ≠ nx := by simpa [testBit_pow'] using hj
          rw [hl, if_neg hj]
          exact ⟨rfl, by show j < nx + 1 ↔ j < nx; omega⟩
        · have hnx : ¬ C.born nx := fun hb => by
            have := (hA.get nx (.inr (.inl (by simp)))).2.1 hb
            exact absurd this (Nat.lt_irrefl _)
          refine fin (nm := nx) g hnx (key g (fun j hj => (hA.get j (.inl (by simp [bitsOf_test, hj]))).1) hop) hF fun C' v h1 h2 h3 h4 h6 => ?_
          simp only [Prod.mk.injEq] at h4
          obtain ⟨b1, b2, b3, b4⟩ := h4
          refine ⟨⟨h1, h2, b4, fun j hj => ?_, fun j hj _ => ?_, fun h => by simp at h, fun _ => b3, fun j hj => ?_, fun k _ _ => by rw [b3]⟩, h6⟩
          · have hj : j = nx := by simpa [testBit_pow'] using hj
            subst hj
            rw [hl, if_pos rfl, h3, b1]
            exact ⟨by simp [Eff.get, upd_same], by simp [Eff.born]⟩
          · have hj : j ≠ nx := by simpa [testBit_pow'] using hj
            rw [h3, b1]
            exact ⟨by simp [Eff.get, upd_other _ _ hj], by simp [Eff.born, hj]⟩
          · have hj : j ≠ nx := fun e => hnx (e ▸ hlow j hj)
            rw [h3]
            simp [Eff.get, upd_other _ _ hj]

end
end Go.Am
