/- Parts of the proof: AmRun8 AmRun9 AmRun10 AmRun11 AmRun12 AmRun13 AmRun14. -/
import Derived.Test.YtmcimfmibpfnhaaGreatAmRun7
import Derived.OrdersIn
import Derived.Scope
set_option linter.all false
set_option linter.deprecated false

namespace Go.Am

theorem testBit_pow (n m : Nat) : (Nat.pow 2 n).testBit m = decide (m = n) := by
  rw [show Nat.pow 2 n = 2 ^ n from rfl, Nat.testBit_two_pow]
  exact decide_eq_decide.2 ⟨Eq.symm, Eq.symm⟩
theorem testBit_pow' (n m : Nat) : (2 ^ n).testBit m = decide (m = n) := testBit_pow n m
theorem bitsOf_test (l : List Nat) (n : Nat) : (bitsOf l).testBit n = decide (n ∈ l) := by
  induction l with
  | nil => simp [bitsOf]
  | cons m r ih =>
    have : Nat.lor (Nat.pow 2 m) (bitsOf r) = Nat.pow 2 m ||| bitsOf r := rfl
    simp only [bitsOf, this, Nat.testBit_or, testBit_pow, ih, List.mem_cons, Bool.decide_or]
theorem newBits_test (base k n : Nat) : (newBits base k).testBit n = decide (base ≤ n ∧ n < base + k) := by
  have e : newBits base k = 2 ^ base * (2 ^ k - 1) := rfl
  rw [e, Nat.testBit_two_pow_mul]
  simp only [Nat.testBit_two_pow_sub_one]
  by_cases h : base ≤ n
  · simp only [h, decide_true, Bool.true_and, true_and]
    exact decide_eq_decide.2 (by omega)
  · simp [h]

theorem look_put (l : List (Nat × Blk)) (n : Nat) (b : Blk) (m : Nat) : look (putB l n b) m = if m = n then some b else look l m := by
  induction l with
  | nil =>
    simp only [putB, look]
    by_cases h : n = m
    · rw [if_pos h, if_pos h.symm]
    · rw [if_neg h, if_neg fun e => h e.symm]
  | cons x r ih =>
    obtain ⟨k, c⟩ := x
    simp only [putB]
    by_cases hk : k = n
    · subst hk
      rw [if_pos rfl]
      simp only [look]
      by_cases h : k = m
      · rw [if_pos h, if_pos h.symm]
      · rw [if_neg h, if_neg fun e => h e.symm, if_neg h]
    · rw [if_neg hk]
      simp only [look, ih]
      by_cases h : k = m
      · rw [if_pos h, if_pos h, if_neg (fun e => hk (h.trans e))]
      · rw [if_neg h, if_neg h]

def touches (tr : Tr) (n : Nat) : Prop := tr.rd.testBit n = true ∨ tr.wr.testBit n = true ∨ tr.all ≠ 0

/-- The context's state, where the operation touches it. -/
structure Agrees (C : Ctx) (H : AHeap) (tr : Tr) : Prop where
  get : ∀ n, touches tr n → C.get n = H.get n ∧ (C.born n ↔ n < H.next)
  js : tr.all ≠ 0 → C.js = H.js
/-- What the operation leaves as it is. -/
structure Leaves (H H' : AHeap) (tr : Tr) : Prop where
  get : ∀ n, tr.wr.testBit n = false → tr.all ≠ 2 → H'.get n = H.get n ∧ (n < H'.next ↔ n < H.next)
  js : tr.all ≠ 2 → H'.js = H.js
theorem Agrees.hr {C : Ctx} {H : AHeap} {tr : Tr} (h : Agrees C H tr) (hall : tr.all ≠ 0) : HR C H :=
  ⟨fun n => (h.get n (.inr (.inr hall))).1, fun n => (h.get n (.inr (.inr hall))).2, h.js hall⟩

theorem Did.of_after {C C' : Ctx} {lo : Nat} {ys : List (Nat × LRec)} {H' : AHeap} (h : After C C' lo ys H') (hX : C'.X = C.X) : Did C C' lo ys H' ⟨0, 0, 2⟩ :=
  ⟨h.le, h.good, hX, fun n _ => ⟨h.hr.get n, h.hr.born n⟩, fun n _ h => absurd rfl h, fun _ => h.hr.js, fun h => absurd rfl h, h.low, h.js⟩

/-- An operation that goes through, in a fence. -/
def OpGoes (E : Env) (C : Ctx) (lo : Nat) (ys : List (Nat × LRec)) (H' : AHeap) (tr : Tr) (x : AV) (F : Fence) (n : Nat) (o : Oper) (a : Act) : Prop :=
  ∀ (K : Act → World → Prop) (Q : Exit → Act → World → Prop), (∀ C' v, Did C C' lo ys H' tr → VR C' x v → K (a.put o.dst v) C'.w) → o.wpIn F n E.P a C.w K Q

section
variable {E : Env} {go : Run} {ys : List (Nat × LRec)} {lo : Nat} {H H' : AHeap} {x : AV} {tr : Tr} {C : Ctx} {o : Oper} {ρ : Operand → AV} {a : Act} {F : Fence} {n : Nat} {rd : Bool}

theorem Oper.wpIn_of {K : Act → World → Prop} {Q : Exit → Act → World → Prop} (hF : FenceOK rd F) (hd : ∀ c, o.op ≠ .defer c) {w : World} (h : o.uponIn F n E.P a K Q ((execOp a.eval o).run E.P w)) : o.wpIn F n E.P a w K Q := by
  refine ⟨fun f _ => hF.1 f, ?_⟩
  rw [Oper.semAt_eq F.round a.eval o hd]
  exact h

theorem prim_goes (hE : EnvOK E) {rdl : List Nat} {k : List Blk → Option Eff} (hp : plan E o ρ = .prim rdl k) (h : runPlan E (callF E go ys lo) lo H (.prim rdl k) = some (x, H', tr)) :
    Leaves H H' tr ∧ (Good C → Agrees C H tr → (∀ m, m < lo → C.born m) → (∃ m, ¬ C.born m) → (∀ y ∈ o.op.operands, VR C (ρ y) (a.eval y)) → FenceOK rd F → OpGoes E C lo ys H' tr x F n o a) := by
  have hdef : ∀ c, o.op ≠ .defer c := fun c hc => by simp [plan, hc] at hp
  simp only [runPlan] at h
  rw [getAll_eq] at h
  cases hbs : rdl.mapM H.get with
  | none => rw [hbs] at h; cases h
  | some bs =>
    rw [hbs] at h
    simp only at h
    cases hk : k bs with
    | none => rw [hk] at h; cases h
    | some ef =>
      rw [hk] at h
      have key : Good C → (∀ m, m ∈ rdl → C.get m = H.get m) → (∀ y ∈ o.op.operands, VR C (ρ y) (a.eval y)) → EffOK E.P C o a.eval ef := fun g hget hop => by
        let ρ' : Operand → AV := fun y => open Classical in if y ∈ o.op.operands then ρ y else .dead
        have e1 : plan E o ρ' = plan E o ρ := plan_congr fun y hy => by simp only [ρ', if_pos hy]
        refine prim_ok (ρ := ρ') hE g (fun y => ?_) (e1.trans hp) (bs := bs) ?_ hk
        · by_cases hy : y ∈ o.op.operands
          · simp only [ρ', if_pos hy]; exact hop y hy
          · simp only [ρ', if_neg hy]; exact .fr (.dead _)
        · rw [← hbs]
          clear hbs hk hp h e1
          induction rdl with
          | nil => rfl
          | cons m r ih => rw [List.mapM_cons, List.mapM_cons, hget m (by simp), ih fun m hm => hget m (by simp [hm])]
      have fin : ∀ {nm : Nat}, Good C → ¬ C.born nm → EffOK E.P C o a.eval ef → FenceOK rd F →
          (∀ C' v, Le C C' → Good C' → C'.get = ef.get nm C.get → (C'.born, C'.lp, C'.js, C'.X) = (ef.born nm C.born, C.lp, C.js, C.X) → VR C' (ef.val nm) v → Did C C' lo ys H' tr ∧ VR C' x v) → OpGoes E C lo ys H' tr x F n o a := by
        intro nm g hnm hef hF hc K Q hK
        obtain ⟨C', v, h1, h2, h3, h4, h5, h6⟩ := hef nm hnm
        obtain ⟨d1, d2⟩ := hc C' v h1 h2 h3 h4 h6
        refine Oper.wpIn_of hF hdef ?_
        rcases h5 with h5 | ⟨h5, rfl⟩
        · rw [h5]; exact hK C' v d1 d2
        · rw [h5]; exact hK C' undef d1 d2
      cases ef with
      | none y =>
        simp only [fA_eq, fNat_eq, Option.some.injEq, Prod.mk.injEq] at h
        obtain ⟨rfl, rfl, rfl⟩ := h
        refine ⟨⟨fun _ _ _ => ⟨rfl, Iff.rfl⟩, fun _ => rfl⟩, fun g hA _ hnm hop hF => ?_⟩
        obtain ⟨nm, hnm⟩ := hnm
        refine fin g hnm (key g (fun m hm => (hA.get m (.inl (by simp [bitsOf_test, hm]))).1) hop) hF fun C' v h1 h2 h3 h4 h6 => ?_
        simp only [Prod.mk.injEq] at h4
        obtain ⟨b1, b2, b3, b4⟩ := h4
        exact ⟨⟨h1, h2, b4, fun m hm => by simp at hm, fun m _ _ => ⟨by rw [h3]; rfl, by rw [b1]; rfl⟩, fun h => by simp at h, fun _ => b3, fun m _ => by rw [h3]; rfl, fun k _ _ => by rw [b3]⟩, h6⟩
      | set m b y =>
        simp only [fA_eq, fNat_eq, fBlk_eq, fPut_eq] at h
        split at h
        · rename_i hc
          simp only [Bool.and_eq_true, Nat.ble_eq, List.any_eq_true, Nat.beq_eq_true_eq] at hc
          obtain ⟨hlo, m', hm', hmm⟩ := hc
          have hmm : m = m' := by simpa using hmm
          subst hmm
          simp only [Option.some.injEq, Prod.mk.injEq] at h
          obtain ⟨rfl, rfl, rfl⟩ := h
          have hl : ∀ j, (⟨putB H.l m b, H.next, H.js⟩ : AHeap).get j = if j = m then some b else H.get j := fun j => look_put _ _ _ _
          refine ⟨⟨fun j hj _ => ?_, fun _ => rfl⟩, fun g hA hlow hnm hop hF => ?_⟩
          · rw [hl, if_neg (by simpa [testBit_pow'] using hj)]
            exact ⟨rfl, Iff.rfl⟩
          · obtain ⟨nm, hnm⟩ := hnm
            refine fin g hnm (key g (fun j hj => (hA.get j (.inl (by simp [bitsOf_test, hj]))).1) hop) hF fun C' v h1 h2 h3 h4 h6 => ?_
            simp only [Prod.mk.injEq] at h4
            obtain ⟨b1, b2, b3, b4⟩ := h4
            refine ⟨⟨h1, h2, b4, fun j hj => ?_, fun j hj _ => ?_, fun h => by simp at h, fun _ => b3, fun j hj => ?_, fun k _ _ => by rw [b3]⟩, h6⟩
            · have hj : j = m := by simpa [testBit_pow'] using hj
              subst hj
              rw [hl, if_pos rfl, h3, b1]
              exact ⟨by simp [Eff.get, upd_same], (hA.get j (.inr (.inl (by simp)))).2⟩
            · have hj : j ≠ m := by simpa [testBit_pow'] using hj
              rw [h3, b1]
              exact ⟨by simp [Eff.get, upd_other _ _ hj], Iff.rfl⟩
            · rw [h3]
              simp [Eff.get, upd_other _ _ (show j ≠ m by omega)]
        · cases h
      | new b y =>
        obtain ⟨l, nx, js⟩ := H
        simp only [fA_eq, fNat_eq, fBlk_eq, Option.some.injEq, Prod.mk.injEq] at h
        obtain ⟨rfl, rfl, rfl⟩ := h
        have hl : ∀ j, (⟨(nx, b) :: l, nx + 1, js⟩ : AHeap).get j = if j = nx then some b else (⟨l, nx, js⟩ : AHeap).get j := fun j => push_get ⟨l, nx, js⟩ b j
        refine ⟨⟨fun j hj _ => ?_, fun _ => rfl⟩, fun g hA hlow hnm hop hF => ?_⟩
        · have hj : j ≠ nx := by simpa [testBit_pow'] using hj
          rw [hl, if_neg hj]
          exact ⟨rfl, by show j < nx + 1 ↔ j < nx; omega⟩
        · have hnx : ¬ C.born nx := fun hb => by
            have := (hA.get nx (.inr (.inl (by simp)))).2.1 hb
            exact absurd this (Nat.lt_irrefl _)
          refine fin (nm := nx) g hnx (key g (fun j hj => (hA.get j (.inl (by simp [bitsOf_test, hj]))).1) hop) hF fun C' v h1 h2 h3 h4 h6 => ?_
          simp only [Prod.mk.injEq] at h4
          obtain ⟨b1, b2, b3, b4⟩ := h4
          refine ⟨⟨h1, h2, b4, fun j hj => ?_, fun j hj _ => ?_, fun h => by simp at h, fun _ => b3, fun j hj => ?_, fun k _ _ => by rw [b3]⟩, h6⟩
          · have hj : j = nx := by simpa [testBit_pow'] using hj
            subst hj
            rw [hl, if_pos rfl, h3, b1]
            exact ⟨by simp [Eff.get, upd_same], by simp [Eff.born]⟩
          · have hj : j ≠ nx := by simpa [testBit_pow'] using hj
            rw [h3, b1]
            exact ⟨by simp [Eff.get, upd_other _ _ hj], by simp [Eff.born, hj]⟩
          · have hj : j ≠ nx := fun e => hnx (e ▸ hlow j hj)
            rw [h3]
            simp [Eff.get, upd_other _ _ hj]

end
end Go.Am

namespace Go.Am

theorem hand_leaves {H1 H H' : AHeap} {lo' : Nat} {own : Bool} {r x : AV} {all : Nat} (h : hand H1 lo' own H r = some (x, H')) : Leaves H H' ⟨0, newBits H.next (H'.next - H.next), all⟩ := by
  obtain ⟨T, bs, h1, h2, h3, h4, rfl, _⟩ := hand_ok' h
  obtain ⟨e1, e2⟩ := pushAll_next H bs
  refine ⟨fun n hn _ => ?_, fun _ => e2⟩
  have hn : ¬ (H.next ≤ n ∧ n < H.next + bs.length) := by
    have := hn
    simp only [newBits_test, e1] at this
    simpa [Nat.add_sub_cancel_left] using this
  rw [pushAll_get, if_neg hn, e1]
  exact ⟨rfl, by omega⟩

theorem hand_did {H1 H H' : AHeap} {lo lo' : Nat} {ys : List (Nat × LRec)} {own : Bool} {r x : AV} {all : Nat} (h : hand H1 lo' own H r = some (x, H')) (hall : all = 0 ∨ all = 1) {C C1 : Ctx} (g : Good C) (g1 : Good C1) (B : Back C C1 lo')
    (hget : ∀ n, C1.get n = H1.get n) (hA : Agrees C H ⟨0, newBits H.next (H'.next - H.next), all⟩) (hlow : ∀ m, m < lo → C.born m) {v : Value} (hv : VR C1 r v) :
    ∃ C2, C2.w = C1.w ∧ Did C C2 lo ys H' ⟨0, newBits H.next (H'.next - H.next), all⟩ ∧ VR C2 x v := by
  obtain ⟨T, bs, h1, h2, h3, h4, rfl, _⟩ := hand_ok' h
  obtain ⟨e1, e2⟩ := pushAll_next H bs
  obtain ⟨hlen, _⟩ := blksA_ok h3
  have hbit : ∀ n, (newBits H.next ((pushAll H bs).next - H.next)).testBit n = decide (inT H.next T n) := fun n => by
    rw [newBits_test, e1, hlen, Nat.add_sub_cancel_left]
    rfl
  have hnew : ∀ n, inT H.next T n → ¬ C.born n := fun n hn hb => by
    have := (hA.get n (.inr (.inl (by simpa [hbit n] using hn)))).2.1 hb
    unfold inT at hn
    omega
  refine ⟨C.back C1 H.next T bs, rfl, ⟨back_le g g1 B hget h3 hnew, back_good g g1 B hget h3 hnew (nodupN_ok h1) h2, rfl, fun n hn => ?_, fun n hn _ => ?_, fun h => ?_, fun _ => rfl, fun n hn => ?_, fun _ _ _ => rfl⟩, h4 ▸ renV_rel g1 B hget h3 hnew frzDepth hv⟩
  · have hn : inT H.next T n := by
      rcases hn with hn | hn
      · simpa [hbit n] using hn
      · simp only at hn; omega
    have hn' : H.next ≤ n ∧ n < H.next + bs.length := by unfold inT at hn; omega
    rw [pushAll_get, if_pos hn', e1]
    simp only [Ctx.back, if_pos hn]
    exact ⟨trivial, ⟨fun _ => hn'.2, fun _ => .inr hn⟩⟩
  · have hn : ¬ inT H.next T n := by simpa [hbit n] using hn
    simp only [Ctx.back, if_neg hn]
    exact ⟨trivial, ⟨fun h => h.resolve_right hn, .inl⟩⟩
  · simp only at h; omega
  · have hn' : ¬ inT H.next T n := fun h => hnew n h (hlow n hn)
    simp only [Ctx.back, if_neg hn']

theorem zip_getD {α β : Type} (l : List α) (m : List β) (i : Nat) (a : α) (b : β) (h1 : i < l.length) (h2 : i < m.length) : (l.zip m).getD i (a, b) = (l.getD i a, m.getD i b) := by
  rw [List.getD_eq_getElem?_getD, List.getElem?_eq_getElem (by simp; omega)]
  simp [h1, h2]
theorem nf_args {C : Ctx} {args : List AV} {vs : Array Value} (h : ARel C args vs) (hn : args.all nf = true) : ARel C.bare args vs :=
  ⟨h.1, fun i hi => nf_rel (List.all_eq_true.1 hn _ (by simp [List.getD_eq_getElem?_getD, hi])) (h.2 i hi)⟩

section
variable {E : Env} {go : Run} {ys : List (Nat × LRec)} {lo : Nat} {H H' : AHeap} {x : AV} {tr : Tr} {C : Ctx} {o : Oper} {ρ : Operand → AV} {a : Act} {F : Fence} {n : Nat} {rd : Bool}

theorem FenceOK.plain (h : FenceOK rd F) : FenceOK false F.plain := ⟨h.1, h.2.1, fun _ => rfl, h.2.2.2⟩
theorem FenceOK.inRound (h : FenceOK rd F) (l : Nat) : FenceOK true (F.inRound l) := ⟨h.1, h.2.1, (fun h => by cases h), h.2.2.2⟩
theorem FenceOK.room (h : FenceOK rd F) {m : Nat} : F.depth.isSome = true → 1 ≤ m := fun h' => by rw [h.2.1] at h'; cases h'
theorem callsIn_plain {P : Program} {m : Nat} {f : FuncId} {vs : Array Value} {w : World} {R : Ending → World → Prop} (h : CallsIn F.plain m P f vs w R) : CallsIn F m P f vs w R := h

/-- A call, from what its callee's run says. -/
theorem call_goes {E : Env} {c : Call} {fo : Operand} (hE : ProgOK E) (hF : FenceOK rd F) (ho : o.op = .call c) (hc : c.callee = .value fo) {f : FuncId} {caps : Array Value} (hf : a.eval fo = .func (.func f) #[] caps)
    (hcall : CallsIn F (n - 1) E.P f (c.args.map a.eval ++ caps) C.w (fun e w' => ∃ v, e = .returned v ∧ ∃ C', C'.w = w' ∧ Did C C' lo ys H' tr ∧ VR C' x v) ∧ ∃ fn cd, E.P.funcs[f]? = some fn ∧ fn.body = some cd) :
    OpGoes E C lo ys H' tr x F n o a := by
  intro K Q hK
  obtain ⟨hcall, fn, cd, h1, h2⟩ := hcall
  refine Oper.wpIn_of hF (fun c' hc' => by rw [ho] at hc'; cases hc') ?_
  rw [run_call ho hc hf, run_callFunc h1 h2 (hE.noNG f fn h1)]
  refine ⟨hF.room, hcall.mono ?_⟩
  rintro e w' ⟨v, rfl, C', rfl, hd, hv⟩
  exact hK C' v hd hv

theorem yield_goes (hgo : GoOK E go) {c : Call} {fo : Operand} (hF : FenceOK rd F) (ho : o.op = .call c) (hc : c.callee = .value fo) {k : Nat} {args : List AV} (hy : yieldG go ys lo k args H = some (x, H')) (g : Good C) (hH : HR C H) (hlow : ∀ m, m < lo → C.born m)
    (hys : YRel C ys) (hfo : VR C (.yl k) (a.eval fo)) (hargs : ARel C args (c.args.map a.eval)) : OpGoes E C lo ys H' ⟨0, 0, 2⟩ x F n o a := by
  obtain ⟨l, r, hl, hev⟩ : ∃ (l : Nat) (r : Loop), C.lp[k]? = some (l, r) ∧ a.eval fo = .func (.yield l) #[] #[] := by
    generalize a.eval fo = u at hfo
    cases hfo with
    | fr h => cases h
    | yl _ l r h => exact ⟨l, r, h, rfl⟩
  unfold yieldG at hy
  split at hy
  · cases hy
  rename_i p rec hfind
  have hmem : (p, rec) ∈ ys := List.mem_of_find?_eq_some hfind
  have hpk : p = k := by simpa using List.find?_some hfind
  subst hpk
  obtain ⟨l', r', hl', hp, has, hbo, hT⟩ := hys _ hmem
  rw [hl] at hl'
  cases hl'
  split at hy
  · rename_i hon
    split at hy
    · rename_i hlen
      have hjs : C.js[p]? = some .on := by rw [hH.js]; exact hon
      have hobj := g.lp p l r _ hl hjs
      have hset : ∀ (ps : List (Tmp × AV)) (us : List (Tmp × Value)) (tm : Slots) (tmps : Array Value) (kk : Slots → Option (AV × AHeap)) (res : AV × AHeap), TR C tm tmps → ps.length = us.length →
          (∀ i, i < ps.length → (ps.getD i (0, .dead)).1 = (us.getD i (0, undef)).1 ∧ VR C (ps.getD i (0, .dead)).2 (us.getD i (0, undef)).2) → setAll tm ps kk = some res →
          ∃ tm', kk tm' = some res ∧ TR C tm' (us.foldl (fun tmps (p : Tmp × Value) => tmps.setIfInBounds p.1 p.2) tmps) := by
        intro ps
        induction ps with
        | nil => intro us tm tmps kk res hT hl _ h; cases us with
          | nil => exact ⟨tm, h, hT⟩
          | cons _ _ => simp at hl
        | cons q ps ih =>
          intro us tm tmps kk res hT hl hr h
          cases us with
          | nil => simp at hl
          | cons u us =>
            obtain ⟨t, y⟩ := q
            obtain ⟨t', u⟩ := u
            have h0 := hr 0 (by simp)
            simp only [List.getD_cons_zero] at h0
            obtain ⟨rfl, h0⟩ := h0
            simp only [setAll] at h
            obtain ⟨tm1, h1, h2, h3⟩ := Slots.set_ok h
            exact ih us tm1 _ kk res (hT.set h0 h2 h3) (by simpa using hl) (fun i hi => by simpa using hr (i + 1) (by simpa using hi)) h1
      have hpar : r.params.size = args.length := by rw [← hlen, ← hp]; simp
      obtain ⟨tm', hy, hT'⟩ := hset (rec.params.zip args) ((r.params.zip (c.args.map a.eval)).toList) rec.tm r.tmps _ _ hT (by simp [hlen, hpar, hargs.1]; rw [← hargs.1]; simp) (fun i hi => by
        have hi1 : i < rec.params.length := by simp at hi; omega
        have hi2 : i < args.length := by omega
        have hi3 : i < c.args.size := by have := hargs.1; simp at this; omega
        have hi4 : i < r.params.size := by omega
        have hv := hargs.2 i hi2
        have e1 : (rec.params.zip args).getD i (0, .dead) = (rec.params.getD i 0, args.getD i .dead) := by
          exact zip_getD _ _ _ _ _ hi1 hi2
        have e2 : ((r.params.zip (c.args.map a.eval)).toList).getD i (0, undef) = (r.params.toList.getD i 0, (c.args.map a.eval).getD i undef) := by
          rw [Array.toList_zip, zip_getD _ _ _ _ _ (by simpa using hi4) (by simpa using hi3)]
          simp [List.getD_eq_getElem?_getD, Array.getD_eq_getD_getElem?]
        rw [e1, e2, hp]
        exact ⟨rfl, hv⟩) hy
      intro K Q hK
      refine Oper.wpIn_of hF (fun c' hc' => by rw [ho] at hc'; cases hc') ?_
      rw [run_callYield ho hc hev, run_yield (args := c.args.map a.eval) hobj (by rw [hargs.1, hpar])]
      refine ⟨hF.room, roundIn_of_wpIn (hF.1 _) ?_⟩
      split at hy
      · rename_i s1 hx1
        have hw1 := hgo true [] lo rec.assign ⟨tm', H⟩ .normal s1 hx1 C { tmps := ((r.params.zip (c.args.map a.eval)).toList).foldl (fun tmps (p : Tmp × Value) => tmps.setIfInBounds p.1 p.2) r.tmps, defers := [] } (F.inRound l) (n - 1) (hF.inRound l) g hH (hH.le_next hlow) hT' (YRel.nil C)
        rw [← has] at hw1
        rw [← Array.foldl_toList]
        refine wpIn_mono hw1 ?_
        rintro e a1 w1 ⟨rfl, C1, ds1, rfl, hA1, hT1, hd1, hm1⟩
        have hl1 := hA1.le.lp _ _ hl
        have hk : p < C.js.length := (List.getElem?_eq_some_iff.1 hjs).1
        have hjs1 : C1.js[p]? = some .on := (hA1.js p hk (by simp)).trans hjs
        have hobj1 := hA1.good.lp p l r _ hl1 hjs1
        refine ⟨_, run_beginRound hobj1 rfl, ?_⟩
        have hlt1 : l < C1.w.heap.size := (Array.getElem?_eq_some_iff.1 hobj1).1
        obtain ⟨t1, t2, t3⟩ := record_turn hA1.good hl1 (.loop { ({ r with state := .ready, pending := none } : Loop) with state := .busy }) .busy C1.X (fun _ h => h) (World.putObj_heap_same hlt1)
        have hLe2 := t3 (Le.refl C1) (fun _ h => h)
        generalize hC2 : C1.turn (C1.w.putObj l (.loop { ({ r with state := .ready, pending := none } : Loop) with state := .busy })) (C1.js.set p .busy) C1.X = C2 at t1 t2 t3 hLe2
        have hw2e : C1.w.putObj l (.loop { ({ r with state := .ready, pending := none } : Loop) with state := .busy }) = C2.w := by rw [← hC2]; rfl
        rw [hw2e]
        have hH2 : HR C2 { s1.H with js := s1.H.js.set p .busy } := by
          rw [← hC2]
          exact ⟨hA1.hr.get, hA1.hr.born, by show C1.js.set p .busy = _; rw [hA1.hr.js]⟩
        have hl2 := hLe2.lp _ _ hl1
        have hjs2 : C2.js[p]? = some .busy := by
          rw [← hC2]
          exact List.getElem?_set_self (Nat.lt_of_lt_of_le hk (g.jslen hA1.good hA1.le))
        have hafter : ∀ (x2 : AX) (s2 : St), go true [] lo rec.body ⟨s1.tm, { s1.H with js := s1.H.js.set p .busy }⟩ = some (x2, s2) →
            (∀ (w4 : World) (st : LS) (st' : LoopState) (pe : Option Code), (∀ (w : World), w.heap[l]? = some (.loop { r with state := st', pending := pe }) → LoopAt w l r st) →
              (fun (_ : Unit) => True) () → ∀ (C3 : Ctx), After C2 C3 lo [] s2.H → C3.w.putObj l (.loop { r with state := st', pending := pe }) = w4 → ∃ C4, C4.w = w4 ∧ Did C C4 lo ys { s2.H with js := s2.H.js.set p st } ⟨0, 0, 2⟩) := by
          intro x2 s2 _ w4 st st' pe hst _ C3 hA3 hw4
          have hl3 := hA3.le.lp _ _ hl2
          have hlt3 : l < C3.w.heap.size := hA3.good.lp_lt hl3
          have hX3 : ∀ b, C.X b → C3.X b := fun b hb => hA3.le.X b (hLe2.X b (hA1.le.X b hb))
          obtain ⟨u1, u2, u3⟩ := record_turn hA3.good hl3 (.loop { r with state := st', pending := pe }) st C.X hX3 (hst _ (World.putObj_heap_same hlt3))
          have hle := u3 (((hA1.le.trans hLe2)).trans hA3.le) (fun _ h => h)
          refine ⟨_, hw4, hle, u1, rfl, fun m _ => ⟨hA3.hr.get m, hA3.hr.born m⟩, fun m _ h => absurd rfl h, fun _ => ?_, fun h => absurd rfl h, fun m hm => ?_, fun i hi hne => ?_⟩
          · show C3.js.set p st = _
            rw [hA3.hr.js]
          · show C3.get m = C.get m
            rw [hA3.low m hm, ← hA1.low m hm, ← hC2]
            rfl
          · have hip : i ≠ p := fun e => hne _ hmem e.symm
            show (C3.js.set p st)[i]? = _
            rw [List.getElem?_set_ne (fun e => hip e.symm)]
            have hi1 : i < C1.js.length := Nat.lt_of_lt_of_le hi (g.jslen hA1.good hA1.le)
            have e2 : C2.js[i]? = C1.js[i]? := by rw [← hC2]; exact List.getElem?_set_ne (fun e => hip e.symm)
            have hi2 : i < C2.js.length := by rw [← hC2]; show i < (C1.js.set p .busy).length; simpa using hi1
            rw [hA3.js i hi2 (by simp), e2]
            exact hA1.js i hi (by simp)
        have hbody : ∀ (x2 : AX) (s2 : St), go true [] lo rec.body ⟨s1.tm, { s1.H with js := s1.H.js.set p .busy }⟩ = some (x2, s2) →
            r.body.wpIn (F.inRound l) (n - 1) E.P (Post C2 lo [] a1 x2 s2) a1 C2.w := fun x2 s2 hx2 => by
          rw [hbo]
          exact hgo true [] lo rec.body _ x2 s2 hx2 C2 a1 (F.inRound l) (n - 1) (hF.inRound l) t1 hH2 (hA1.lo hH (hH.le_next hlow)) ⟨hT1.1, fun t => t2 (hT1.2 t)⟩ (YRel.nil C2)
        split at hy
        · rename_i s2 hx2
          simp only [Option.some.injEq, Prod.mk.injEq] at hy
          obtain ⟨rfl, rfl⟩ := hy
          refine wpIn_mono (hbody _ _ hx2) ?_
          rintro e a3 w3 ⟨rfl, C3, ds3, rfl, hA3, _, _, _⟩
          have hobj3 : C3.w.heap[l]? = some (.loop { r with state := .busy, pending := none }) := hA3.good.lp p l r _ (hA3.le.lp _ _ hl2) ((hA3.js p (List.getElem?_eq_some_iff.1 hjs2).1 (by simp)).trans hjs2)
          refine ⟨_, _, run_endRound none hobj3, ?_⟩
          obtain ⟨C4, h4, d4⟩ := hafter _ _ hx2 _ .on .ready none (fun w hw => hw) trivial C3 hA3 rfl
          have hfin := hK C4 (.bool true) d4 (.fr (.v rfl))
          rw [h4] at hfin
          exact hfin
        · rename_i x2 s2 hx2 hne
          simp only [Option.some.injEq, Prod.mk.injEq] at hy
          obtain ⟨rfl, rfl⟩ := hy
          refine wpIn_mono (hbody _ _ hne) ?_
          rintro e a3 w3 ⟨rfl, C3, ds3, rfl, hA3, _, _, _⟩
          have hobj3 : C3.w.heap[l]? = some (.loop { r with state := .busy, pending := none }) := hA3.good.lp p l r _ (hA3.le.lp _ _ hl2) ((hA3.js p (List.getElem?_eq_some_iff.1 hjs2).1 (by simp)).trans hjs2)
          obtain ⟨C4, h4, d4⟩ := hafter _ _ hne _ (.jump x2) .done (some x2.code) (fun w hw => hw) trivial C3 hA3 rfl
          have hfin := hK C4 (.bool false) d4 (.fr (.v rfl))
          rw [h4] at hfin
          cases x2 with
          | normal => exact (hx2 rfl).elim
          | exit id => exact ⟨_, _, run_endRound (some (.exit id)) hobj3, hfin⟩
          | ret => exact ⟨_, _, run_endRound (some .ret) hobj3, hfin⟩
        · cases hy
      · cases hy
    · cases hy
  · cases hy
end
end Go.Am

namespace Go.Am

section
variable {E : Env} {go : Run} {ys : List (Nat × LRec)} {lo : Nat} {H H' : AHeap} {x : AV} {tr : Tr} {o : Oper} {ρ : Operand → AV} {n : Nat}

theorem runPlan_goes (hE : ProgOK E) (hgo : GoOK E go) (h : runPlan E (callF E go ys lo) lo H (plan E o ρ) = some (x, H', tr)) :
    Leaves H H' tr ∧ ∀ (C : Ctx) (a : Act) (F : Fence) (rd : Bool), Good C → Agrees C H tr → (∀ m, m < lo → C.born m) → (∃ m, ¬ C.born m) → YRel C ys → (∀ y ∈ o.op.operands, VR C (ρ y) (a.eval y)) → FenceOK rd F → OpGoes E C lo ys H' tr x F n o a := by
  cases hp : plan E o ρ with
  | bad => rw [hp] at h; cases h
  | prim rdl k =>
    rw [hp] at h
    refine ⟨(prim_goes (C := ⟨default, fun _ => (0, 0, 0), fun _ => none, fun _ => False, fun _ => False, [], []⟩) (a := ⟨#[], []⟩) (F := Fence.wide) (n := 0) (rd := false) hE.toEnvOK hp h).1, fun C a F rd g hA hlow hfr _ hop hF => (prim_goes hE.toEnvOK hp h).2 g hA hlow hfr hop hF⟩
  | yield k args =>
    obtain ⟨c, fo, ho, hc, hh⟩ := plan_loud (E := E) (o := o) (ρ := ρ) (by rw [hp]; rfl)
    rcases hh with ⟨f, caps, _, he⟩ | ⟨k', hfo, he⟩
    · rw [hp] at he; cases he
    · rw [hp] at he
      cases he
      rw [hp] at h
      simp only [runPlan] at h
      split at h
      · cases h
      · rename_i r H1 hy
        simp only [Option.some.injEq, Prod.mk.injEq] at h
        obtain ⟨rfl, rfl, rfl⟩ := h
        refine ⟨⟨fun m _ hm => absurd rfl hm, fun hm => absurd rfl hm⟩, fun C a F rd g hA hlow hfr hys hop hF => ?_⟩
        have hop' : ∀ y ∈ c.operands, VR C (ρ y) (a.eval y) := fun y hy => hop y (by rw [ho]; exact hy)
        exact yield_goes hgo hF ho hc hy g (hA.hr (by simp)) hlow hys (hfo ▸ hop' fo (by simp [Call.operands, hc])) (args_rel c fun y hy => hop' y (by simp [Call.operands, hy]))
  | call f args =>
    obtain ⟨c, fo, ho, hc, hh⟩ := plan_loud (E := E) (o := o) (ρ := ρ) (by rw [hp]; rfl)
    rcases hh with ⟨f', caps, hfo, he⟩ | ⟨k', _, he⟩
    · rw [hp] at he
      cases he
      rw [hp] at h
      have hvals : ∀ (C : Ctx) (a : Act), (∀ y ∈ o.op.operands, VR C (ρ y) (a.eval y)) → ∃ vs : Array Value, a.eval fo = .func (.func f) #[] vs ∧ ARel C (c.args.toList.map ρ ++ caps) (c.args.map a.eval ++ vs) := fun C a hop => by
        have hop' : ∀ y ∈ c.operands, VR C (ρ y) (a.eval y) := fun y hy => hop y (by rw [ho]; exact hy)
        obtain ⟨vs, e1, e2, e3⟩ := (hfo ▸ hop' fo (by simp [Call.operands, hc])).fn_inv
        exact ⟨vs, e1, (args_rel c fun y hy => hop' y (by simp [Call.operands, hy])).append e3 e2⟩
      have shared : ∀ (own : Bool), ((if (c.args.toList.map ρ ++ caps).all nf then match (callF E go ys lo).call false 0 f (c.args.toList.map ρ ++ caps) .empty with
            | none => none
            | some (r, H') => match hand H' 0 own H r with
              | none => none
              | some (r, G) => fNat (newBits H.next (G.next - H.next)) fun m => some (r, G, (⟨0, m, 0⟩ : Tr))
          else match (callF E go ys lo).call false H.next f (c.args.toList.map ρ ++ caps) H with
            | none => none
            | some (r, H') => match hand H' H.next own H r with
              | none => none
              | some (r, G) => fNat (newBits H.next (G.next - H.next)) fun m => some (r, G, (⟨0, m, 1⟩ : Tr))) = some (x, H', tr)) →
          Leaves H H' tr ∧ ∀ (C : Ctx) (a : Act) (F : Fence) (rd : Bool), Good C → Agrees C H tr → (∀ m, m < lo → C.born m) → (∃ m, ¬ C.born m) → YRel C ys → (∀ y ∈ o.op.operands, VR C (ρ y) (a.eval y)) → FenceOK rd F → OpGoes E C lo ys H' tr x F n o a := by
        intro own h
        split at h
        · rename_i hnf
          split at h
          · cases h
          · rename_i r H1 hcall
            split at h
            · cases h
            · rename_i r' G hhand
              rw [fNat_eq] at h
              simp only [Option.some.injEq, Prod.mk.injEq] at h
              obtain ⟨rfl, rfl, rfl⟩ := h
              refine ⟨hand_leaves hhand, fun C a F rd g hA hlow hfr hys hop hF => ?_⟩
              obtain ⟨vs, e1, e2⟩ := hvals C a hop
              obtain ⟨k1, k2⟩ := call_ok hgo hcall (bare_good g) (bare_hr C) (Nat.zero_le _) (nf_args e2 hnf) (YRel.nil _) F.plain hF.plain (n - 1)
              refine call_goes hE hF ho hc e1 ⟨(callsIn_plain k1).mono ?_, k2⟩
              rintro e w' ⟨v, rfl, C1, rfl, hA1, _, hv⟩
              obtain ⟨C2, h1, h2, h3⟩ := hand_did (lo := lo) (ys := ys) hhand (.inl rfl) g hA1.good (back_bare g hA1.good hA1.le) hA1.hr.get hA hlow hv
              exact ⟨v, rfl, C2, h1, h2, h3⟩
        · split at h
          · cases h
          · rename_i r H1 hcall
            split at h
            · cases h
            · rename_i r' G hhand
              rw [fNat_eq] at h
              simp only [Option.some.injEq, Prod.mk.injEq] at h
              obtain ⟨rfl, rfl, rfl⟩ := h
              refine ⟨hand_leaves hhand, fun C a F rd g hA hlow hfr hys hop hF => ?_⟩
              obtain ⟨vs, e1, e2⟩ := hvals C a hop
              have hH : HR C H := hA.hr (by simp)
              obtain ⟨k1, k2⟩ := call_ok hgo hcall g hH (Nat.le_refl _) e2 (YRel.nil _) F.plain hF.plain (n - 1)
              refine call_goes hE hF ho hc e1 ⟨(callsIn_plain k1).mono ?_, k2⟩
              rintro e w' ⟨v, rfl, C1, rfl, hA1, _, hv⟩
              obtain ⟨C2, h1, h2, h3⟩ := hand_did (lo := lo) (ys := ys) hhand (.inr rfl) g hA1.good (back_shared (ys := []) g hH.born hA1) hA1.hr.get hA hlow hv
              exact ⟨v, rfl, C2, h1, h2, h3⟩
      simp only [runPlan] at h
      split at h
      · split at h
        · cases h
        · rename_i r H1 hcall
          simp only [Option.some.injEq, Prod.mk.injEq] at h
          obtain ⟨rfl, rfl, rfl⟩ := h
          refine ⟨⟨fun m _ hm => absurd rfl hm, fun hm => absurd rfl hm⟩, fun C a F rd g hA hlow hfr hys hop hF => ?_⟩
          obtain ⟨vs, e1, e2⟩ := hvals C a hop
          obtain ⟨k1, k2⟩ := call_ok hgo hcall g (hA.hr (by simp)) ((hA.hr (by simp)).le_next hlow) e2 hys F.plain hF.plain (n - 1)
          refine call_goes hE hF ho hc e1 ⟨(callsIn_plain k1).mono ?_, k2⟩
          rintro e w' ⟨v, rfl, C1, rfl, hA1, hX, hv⟩
          exact ⟨v, rfl, C1, rfl, Did.of_after hA1 hX, hv⟩
      · rename_i hpol
        split at h
        · split at h
          · cases h
          · rename_i r ho'
            simp only [Option.some.injEq, Prod.mk.injEq] at h
            obtain ⟨rfl, rfl, rfl⟩ := h
            have hO := hE.orc _ _ _ ho'
            refine ⟨⟨fun _ _ _ => ⟨rfl, Iff.rfl⟩, fun _ => rfl⟩, fun C a F rd g hA hlow hfr hys hop hF => ?_⟩
            obtain ⟨vs, e1, e2⟩ := hvals C a hop
            refine call_goes hE hF ho hc e1 ⟨(callsIn_plain (hO.run C _ g e2 F.plain hF.plain (n - 1))).mono ?_, hO.body⟩
            rintro e w' ⟨v, rfl, C1, rfl, hD, hv⟩
            exact ⟨v, rfl, C1, rfl, hD lo ys H hlow, hv⟩
        · rename_i hnf
          exact shared false (by rw [if_neg hnf]; exact h)
      · exact shared _ h
    · rw [hp] at he; cases he

/-- An operation of a region goes through. -/
def StepGoes (E : Env) (ops : Array Oper) (o : Oper) (s s' : St) (tr : Tr) (lo : Nat) (ys : List (Nat × LRec)) : Prop :=
  Leaves s.H s'.H tr ∧ s'.tm.n = s.tm.n ∧ ∃ x, (∀ u, s'.tm.get u = if o.dst = some u ∧ u < s.tm.n then x else s.tm.get u) ∧
    ∀ (C : Ctx) (a : Act) (F : Fence) (rd : Bool) (n : Nat), Good C → Agrees C s.H tr → (∀ m, m < lo → C.born m) → (∃ m, ¬ C.born m) → YRel C ys → (∀ t ∈ namesOp ops.toList o, VR C (s.tm.get t) (a.tmps.getD t undef)) → FenceOK rd F →
    ∀ (K : Act → World → Prop) (Q : Exit → Act → World → Prop), (∀ C' v, Did C C' lo ys s'.H tr → VR C' x v → K (a.put o.dst v) C'.w) →
      if Region.wanted o (yielded ops a.tmps) = true then o.wpIn F n E.P a C.w K Q else (∀ f, o.about E.P C.w a.eval = some f → F.fn f) ∧ K (a.put o.dst undef) C.w

theorem Did.refl {C : Ctx} (g : Good C) (lo : Nat) (ys : List (Nat × LRec)) (H' : AHeap) : Did C C lo ys H' ⟨0, 0, 0⟩ :=
  ⟨.refl C, g, rfl, fun n h => by simp at h, fun _ _ _ => ⟨rfl, Iff.rfl⟩, fun h => by simp at h, fun _ => rfl, fun _ _ => rfl, fun _ _ _ => rfl⟩

theorem putS_ok {R : Type} {tm : Slots} {dst : Option Tmp} {x : AV} {k : Slots → Option R} {r : R} (h : putS tm dst x k = some r) :
    ∃ tm', k tm' = some r ∧ tm'.n = tm.n ∧ ∀ u, tm'.get u = if dst = some u ∧ u < tm.n then x else tm.get u := by
  cases dst with
  | none => exact ⟨tm, h, rfl, fun u => by simp⟩
  | some d =>
    obtain ⟨tm', h1, h2, h3⟩ := Slots.set_ok h
    refine ⟨tm', h1, h2, fun u => ?_⟩
    rw [h3]
    by_cases hd : d = u
    · subst hd; simp
    · rw [if_neg (fun e => hd e.2.symm), if_neg (fun e => hd (by simpa using e.1))]

theorem stepOp_goes (hE : ProgOK E) (hgo : GoOK E go) {ops : Array Oper} {s s' : St} (h : stepOp E (callF E go ys lo) lo ops.toList o s = some (s', tr)) : StepGoes E ops o s s' tr lo ys := by
  unfold stepOp at h
  split at h
  · cases h
  · rename_i hw
    obtain ⟨tm', h1, h2, h3⟩ := putS_ok h
    simp only [Option.some.injEq, Prod.mk.injEq] at h1
    obtain ⟨rfl, rfl⟩ := h1
    refine ⟨⟨fun _ _ _ => ⟨rfl, Iff.rfl⟩, fun _ => rfl⟩, h2, _, h3, fun C a F rd n g hA hlow hfr hys hnm hF K Q hK => ?_⟩
    rw [wanted_rel hw hnm]
    simp only [Bool.false_eq_true, if_false]
    exact ⟨fun f _ => hF.1 f, hK C undef (.refl g _ _ _) vr_undef⟩
  · rename_i hw
    split at h
    · cases h
    · rename_i x H' tr' hrun
      obtain ⟨tm', h1, h2, h3⟩ := putS_ok h
      simp only [Option.some.injEq, Prod.mk.injEq] at h1
      obtain ⟨rfl, rfl⟩ := h1
      refine ⟨(runPlan_goes (n := 0) hE hgo hrun).1, h2, _, h3, fun C a F rd n g hA hlow hfr hys hnm hF K Q hK => ?_⟩
      rw [wanted_rel hw hnm]
      simp only [if_true]
      refine (runPlan_goes (n := n) hE hgo hrun).2 C a F rd g hA hlow hfr hys (fun y hy => aev_rel y fun t ht => hnm t ?_) hF K Q hK
      subst ht
      simp only [namesOp, List.append_assoc, List.mem_append]
      exact .inr (.inl (List.mem_filterMap.2 ⟨.tmp t, by simpa using hy, rfl⟩))
end

theorem Agrees.of_hr {C : Ctx} {H : AHeap} (h : HR C H) (tr : Tr) : Agrees C H tr := ⟨fun n _ => ⟨h.get n, h.born n⟩, fun _ => h.js⟩
theorem HR.fresh {C : Ctx} {H : AHeap} (h : HR C H) : ∃ m, ¬ C.born m := ⟨H.next, fun hb => Nat.lt_irrefl _ ((h.born _).1 hb)⟩
theorem Did.hr {C C' : Ctx} {lo : Nat} {ys : List (Nat × LRec)} {H H' : AHeap} {tr : Tr} (hL : Leaves H H' tr) (hH : HR C H) (d : Did C C' lo ys H' tr) : HR C' H' := by
  refine ⟨fun n => ?_, fun n => ?_, ?_⟩
  · by_cases hw : tr.wr.testBit n = true ∨ tr.all = 2
    · exact (d.get n hw).1
    · simp only [not_or, Bool.not_eq_true] at hw
      rw [(d.same n hw.1 hw.2).1, hH.get, (hL.get n hw.1 hw.2).1]
  · by_cases hw : tr.wr.testBit n = true ∨ tr.all = 2
    · exact (d.get n hw).2
    · simp only [not_or, Bool.not_eq_true] at hw
      rw [(d.same n hw.1 hw.2).2, hH.born, (hL.get n hw.1 hw.2).2]
  · by_cases h2 : tr.all = 2
    · exact d.js2 h2
    · rw [d.js h2, hH.js, hL.js h2]
theorem Did.after {C C' : Ctx} {lo : Nat} {ys : List (Nat × LRec)} {H H' : AHeap} {tr : Tr} (hL : Leaves H H' tr) (hH : HR C H) (d : Did C C' lo ys H' tr) : After C C' lo ys H' :=
  ⟨d.le, d.good, d.hr hL hH, d.low, d.jsk⟩

theorem put_tr {C C' : Ctx} (hle : Le C C') {tm tm' : Slots} {a : Act} {dst : Option Tmp} {x : AV} {v : Value} (h : TR C tm a.tmps) (hv : VR C' x v) (hn : tm'.n = tm.n) (hg : ∀ u, tm'.get u = if dst = some u ∧ u < tm.n then x else tm.get u) :
    TR C' tm' (a.put dst v).tmps := by
  cases dst with
  | none =>
    refine ⟨hn.trans h.1, fun t => ?_⟩
    rw [hg t, if_neg (by simp)]
    exact (h.2 t).mono hle
  | some d =>
    refine (h.mono hle).set hv hn fun u => ?_
    rw [hg u]
    by_cases hd : d = u
    · subst hd; simp
    · rw [if_neg (fun e => hd (by simpa using e.1)), if_neg (fun e => hd e.2.symm)]
theorem put_defers (a : Act) (dst : Option Tmp) (v : Value) : (a.put dst v).defers = a.defers := by cases dst <;> rfl

/-- The operations in order. -/
theorem runOps_goes {E : Env} {go : Run} {ys : List (Nat × LRec)} {lo : Nat} (hE : ProgOK E) (hgo : GoOK E go) {ops : Array Oper} {F : Fence} {rd : Bool} {n : Nat} (hF : FenceOK rd F) (Q : Exit → Act → World → Prop) (rest : List Oper) :
    ∀ (i : Nat) (s s' : St) (trs : List Tr) (C : Ctx) (a : Act), rest = ops.toList.drop i → runOps E (callF E go ys lo) lo ops.toList rest s = some (s', trs) → Good C → HR C s.H → TR C s.tm a.tmps → YRel C ys → lo ≤ s.H.next →
      (∀ C' a', After C C' lo ys s'.H → TR C' s'.tm a'.tmps → a'.defers = a.defers → Q .normal a' C'.w) → wpOpsIn F n E.P ops Q (List.range' i rest.length) a C.w := by
  induction rest with
  | nil =>
    intro i s s' trs C a _ h g hH hT _ _ hQ
    simp only [runOps, Option.some.injEq, Prod.mk.injEq] at h
    obtain ⟨rfl, rfl⟩ := h
    exact hQ C a (.refl g hH) hT rfl
  | cons o rest ih =>
    intro i s s' trs C a hrest h g hH hT hY hlo hQ
    simp only [runOps] at h
    split at h
    · cases h
    rename_i s1 tr1 h1
    split at h
    · cases h
    rename_i s2 trs2 h2
    simp only [Option.some.injEq, Prod.mk.injEq] at h
    obtain ⟨rfl, rfl⟩ := h
    have hi : i < ops.toList.length := by
      rcases Nat.lt_or_ge i ops.toList.length with h | h
      · exact h
      · rw [List.drop_eq_nil_of_le h] at hrest; cases hrest
    have hd := List.drop_eq_getElem_cons hi
    rw [← hrest] at hd
    obtain ⟨rfl, hrest'⟩ := List.cons.inj hd
    have ho : ops[i]? = some ops.toList[i] := by simp at hi ⊢
    obtain ⟨hL, hn, x, hg, hgoes⟩ := stepOp_goes hE hgo h1
    simp only [List.length_cons, List.range'_succ, wpOpsIn, ho]
    refine hgoes C a F rd n g (.of_hr hH tr1) (fun m hm => (hH.born m).2 (by omega)) hH.fresh hY (fun t _ => hT.2 t) hF _ _ fun C' v d hv => ?_
    have hA := d.after hL hH
    refine ih (i + 1) s1 s2 trs2 C' _ hrest' h2 d.good (d.hr hL hH) (put_tr d.le hT hv hn hg) (hY.mono d.le) ?_ fun C'' a'' hA' hT'' hd'' => ?_
    · rcases Nat.lt_or_ge s1.H.next lo with h | h
      · have : C'.born s1.H.next := d.le.born _ ((hH.born _).2 (by omega))
        exact absurd (((d.hr hL hH).born _).1 this) (Nat.lt_irrefl _)
      · exact h
    · exact hQ C'' a'' (hA.trans g hA') hT'' (hd''.trans (put_defers _ _ _))

end Go.Am

namespace Go.Am

theorem bit_eq (m i : Nat) : bit m i = m.testBit i := by
  have h : Nat.land (Nat.shiftRight m i) 1 = (m >>> i) % 2 := Nat.and_one_is_mod _
  unfold bit
  rw [h, Nat.testBit_eq_decide_div_mod_eq, Nat.shiftRight_eq_div_pow]
  rcases Nat.mod_two_eq_zero_or_one (m / 2 ^ i) with h | h <;> rw [h] <;> rfl

theorem runOps_seq {E : Env} {cf : CallF} {lo : Nat} {ops rest : List Oper} : ∀ {s s' : St} {trs : List Tr}, runOps E cf lo ops rest s = some (s', trs) →
    ∃ S : Nat → St, S 0 = s ∧ S rest.length = s' ∧ trs.length = rest.length ∧ ∀ (k : Nat) (o : Oper), rest[k]? = some o → ∃ tr, trs[k]? = some tr ∧ stepOp E cf lo ops o (S k) = some (S (k + 1), tr) := by
  induction rest with
  | nil =>
    intro s s' trs h
    simp only [runOps, Option.some.injEq, Prod.mk.injEq] at h
    obtain ⟨rfl, rfl⟩ := h
    exact ⟨fun _ => s, rfl, rfl, rfl, fun k o h => by simp at h⟩
  | cons o rest ih =>
    intro s s' trs h
    simp only [runOps] at h
    split at h
    · cases h
    rename_i s1 tr1 h1
    split at h
    · cases h
    rename_i s2 trs2 h2
    simp only [Option.some.injEq, Prod.mk.injEq] at h
    obtain ⟨rfl, rfl⟩ := h
    obtain ⟨S, e1, e2, e3, e4⟩ := ih h2
    refine ⟨fun k => match k with | 0 => s | k + 1 => S k, rfl, e2, by simp [e3], fun k o' hk => ?_⟩
    cases k with
    | zero => simp at hk; subst hk; exact ⟨tr1, rfl, by rw [h1, ← e1]⟩
    | succ k => exact e4 k o' (by simpa using hk)

theorem ahead1_ok (acc : List Nat) (n : Nat) (es : List Edge) : ∀ (s u i : Nat), (ahead1 acc n es s u).testBit i = true → s.testBit i = true ∨ ∃ e ∈ es, Region.binds .any e = true ∧ e.on < n ∧ (i = e.on ∨ (acc.getD (n - 1 - e.on) 0).testBit i = true) := by
  induction es with
  | nil => intro s u i h; exact .inl h
  | cons e r ih =>
    intro s u i h
    simp only [ahead1] at h
    split at h
    · rename_i hc
      rw [fNat_eq] at h
      simp only [Bool.and_eq_true, Nat.blt_eq] at hc
      rcases ih _ _ _ h with h | ⟨e', h1, h2⟩
      · have h' : (s ||| 2 ^ e.on ||| getR 0 acc (n - 1 - e.on)).testBit i = true := h
        simp only [Nat.testBit_or, Bool.or_eq_true, testBit_pow', decide_eq_true_eq, getR_eq] at h'
        rcases h' with (h' | h') | h'
        · exact .inl h'
        · exact .inr ⟨e, by simp, hc.1.1, hc.1.2, .inl h'⟩
        · exact .inr ⟨e, by simp, hc.1.1, hc.1.2, .inr h'⟩
      · exact .inr ⟨e', by simp [h1], h2⟩
    · rcases ih _ _ _ h with h | ⟨e', h1, h2⟩
      · exact .inl h
      · exact .inr ⟨e', by simp [h1], h2⟩

theorem aheads_ok (L : List Oper) : ∀ (acc : List Nat) (n : Nat), n = acc.length → (aheads L acc n).length = L.length ∧ ∀ (j : Nat) (o : Oper), L[j]? = some o → ∃ a, (aheads L acc n)[j]? = some a ∧
    ∀ i, a.testBit i = true → ∃ e ∈ o.after.toList, Region.binds .any e = true ∧ (i = e.on ∨ ((acc.reverse ++ aheads L acc n).getD e.on 0).testBit i = true) := by
  induction L with
  | nil => intro acc n _; exact ⟨rfl, fun j o h => by simp at h⟩
  | cons o rest ih =>
    intro acc n hn
    simp only [aheads, fNat_eq]
    obtain ⟨h1, h2⟩ := ih (ahead1 acc n o.after.toList 0 0 :: acc) (n + 1) (by simp [hn])
    refine ⟨by simp [h1], fun j o' hj => ?_⟩
    cases j with
    | zero =>
      simp only [List.getElem?_cons_zero, Option.some.injEq] at hj
      subst hj
      refine ⟨_, rfl, fun i hi => ?_⟩
      rcases ahead1_ok acc n _ _ _ i hi with h | ⟨e, e1, e2, e3, e4⟩
      · simp at h
      · refine ⟨e, e1, e2, e4.imp id fun h => ?_⟩
        rw [← h]
        congr 1
        simp only [List.getD_eq_getElem?_getD]
        rw [List.getElem?_append_left (by simp; omega), List.getElem?_reverse (by omega), ← hn]
    | succ j =>
      obtain ⟨a, h3, h4⟩ := h2 j o' (by simpa using hj)
      refine ⟨a, by simpa using h3, fun i hi => ?_⟩
      obtain ⟨e, e1, e2, e3⟩ := h4 i hi
      refine ⟨e, e1, e2, e3.imp id fun h => ?_⟩
      rw [← h]
      simp

theorem clash_triv_r {x y : Tr} (h : Nat.beq (Nat.add (Nat.add y.rd y.wr) y.all) 0 = true) : clash x y = false := by
  have h : y.rd + y.wr + y.all = 0 := Nat.eq_of_beq_eq_true h
  have h1 : y.rd = 0 := by omega
  have h2 : y.wr = 0 := by omega
  have h3 : y.all = 0 := by omega
  unfold clash
  rw [h1, h2, h3]
  have e1 : Nat.lor 0 0 = 0 := rfl
  have e2 : Nat.land x.wr 0 = 0 := Nat.and_zero _
  have e3 : Nat.land 0 x.rd = 0 := Nat.zero_and _
  rw [e1, e2, e3]
  simp [Nat.beq]
theorem clash_triv_l {x y : Tr} (h : Nat.beq (Nat.add (Nat.add x.rd x.wr) x.all) 0 = true) : clash x y = false := by
  have h : x.rd + x.wr + x.all = 0 := Nat.eq_of_beq_eq_true h
  have h1 : x.rd = 0 := by omega
  have h2 : x.wr = 0 := by omega
  have h3 : x.all = 0 := by omega
  unfold clash
  rw [h1, h2, h3]
  have e1 : ∀ z, Nat.land 0 z = 0 := Nat.zero_and
  have e3 : Nat.land y.wr 0 = 0 := Nat.and_zero _
  have e4 : Nat.lor 0 0 = 0 := rfl
  rw [e1, e3, e4]
  simp [Nat.beq]

def Tr.writes (t : Tr) (n : Nat) : Prop := t.wr.testBit n = true ∨ t.all = 2
theorem ne_zero_of_bit {m n : Nat} (h : m.testBit n = true) : m ≠ 0 := fun e => by subst e; simp at h
theorem beq_ff {m : Nat} (h : m ≠ 0) : Nat.beq m 0 = false := by cases m with | zero => exact absurd rfl h | succ m => rfl
theorem clash_of {x y : Tr} {n : Nat} (h : (x.writes n ∧ touches y n) ∨ (touches x n ∧ y.writes n)) : clash x y = true := by
  have big : ∀ {a : Tr}, touches a n → Nat.add (Nat.add a.rd a.wr) a.all ≠ 0 := fun h e => by
    have e' : _ + _ + _ = 0 := e
    rcases h with h | h | h
    · exact ne_zero_of_bit h (by omega)
    · exact ne_zero_of_bit h (by omega)
    · exact h (by omega)
  have hb : ∀ {a b c : Nat}, (a.testBit n = true ∧ (b.testBit n = true ∨ c.testBit n = true)) → Nat.land a (Nat.lor b c) ≠ 0 := fun {a b c} h e => by
    have e' : (a &&& (b ||| c)).testBit n = true := by rw [Nat.testBit_and, Nat.testBit_or, h.1]; rcases h.2 with h | h <;> simp [h]
    have e'' : a &&& (b ||| c) = 0 := e
    rw [e''] at e'
    simp at e'
  have lor_l : ∀ {a b : Nat}, a ≠ 0 → Nat.lor a b ≠ 0 := fun {a b} h e => by
    have e' : a ||| b = 0 := e
    exact h (Nat.or_eq_zero_iff.1 e').1
  have lor_r : ∀ {a b : Nat}, b ≠ 0 → Nat.lor a b ≠ 0 := fun {a b} h e => by
    have e' : a ||| b = 0 := e
    exact h (Nat.or_eq_zero_iff.1 e').2
  have sum : ∀ {a b : Nat}, (a ≠ 0 ∨ b ≠ 0) → Nat.add a b ≠ 0 := fun {a b} h e => by
    have e' : a + b = 0 := e
    omega
  unfold clash
  simp only [Bool.or_eq_true, Bool.and_eq_true, Bool.not_eq_true']
  rcases h with ⟨h1 | h1, h2⟩ | ⟨h1, h2 | h2⟩
  · rcases h2 with h2 | h2 | h2
    · exact .inl (beq_ff (lor_l (hb ⟨h1, .inl h2⟩)))
    · exact .inl (beq_ff (lor_l (hb ⟨h1, .inr h2⟩)))
    · exact .inr ⟨beq_ff (sum (.inr h2)), .inr ⟨beq_ff h2, beq_ff (ne_zero_of_bit h1)⟩⟩
  · exact .inr ⟨beq_ff (sum (.inl (by omega))), .inl (.inl (.inl ⟨by rw [h1]; rfl, beq_ff (big h2)⟩))⟩
  · rcases h1 with h1 | h1 | h1
    · refine .inl (beq_ff (lor_r fun e => ?_))
      have e' : (y.wr &&& x.rd).testBit n = true := by rw [Nat.testBit_and, h1, h2]; rfl
      have e'' : y.wr &&& x.rd = 0 := e
      rw [e''] at e'
      simp at e'
    · exact .inl (beq_ff (lor_l (hb ⟨h1, .inr h2⟩)))
    · exact .inr ⟨beq_ff (sum (.inl h1)), .inl (.inr ⟨beq_ff h1, beq_ff (ne_zero_of_bit h2)⟩)⟩
  · exact .inr ⟨beq_ff (sum (.inr (by omega))), .inl (.inl (.inr ⟨by rw [h2]; rfl, beq_ff (big h1)⟩))⟩

theorem okPairs_ok (xs : List Tr) : ∀ (as : List Nat) (i : Nat) (pre : List (Nat × Tr)), okPairs as xs i pre = true →
    ∀ (j : Nat) (y : Tr), xs[j]? = some y → ∃ a, as[j]? = some a ∧ (∀ p ∈ pre, a.testBit p.1 = true ∨ clash p.2 y = false) ∧ ∀ (k : Nat) (z : Tr), k < j → xs[k]? = some z → a.testBit (i + k) = true ∨ clash z y = false := by
  induction xs with
  | nil => intro as i pre _ j y h; simp at h
  | cons x xs ih =>
    intro as i pre h j y hj
    cases as with
    | nil => simp [okPairs] at h
    | cons a as =>
      simp only [okPairs, fNat_eq] at h
      split at h
      · rename_i htriv
        cases j with
        | zero =>
          simp only [List.getElem?_cons_zero, Option.some.injEq] at hj
          subst hj
          exact ⟨a, rfl, fun p _ => .inr (clash_triv_r htriv), fun k z hk => by omega⟩
        | succ j =>
          obtain ⟨a', h1, h2, h3⟩ := ih as (i + 1) pre h j y (by simpa using hj)
          refine ⟨a', by simpa using h1, h2, fun k z hk hz => ?_⟩
          cases k with
          | zero =>
            simp only [List.getElem?_cons_zero, Option.some.injEq] at hz
            subst hz
            exact .inr (clash_triv_l htriv)
          | succ k => rw [show i + (k + 1) = i + 1 + k by omega]; exact h3 k z (by omega) (by simpa using hz)
      · split at h
        · rename_i hall
          have hall' : ∀ p ∈ pre, a.testBit p.1 = true ∨ clash p.2 x = false := fun p hp => by
            have := List.all_eq_true.1 hall p hp
            simpa [bit_eq] using this
          cases j with
          | zero =>
            simp only [List.getElem?_cons_zero, Option.some.injEq] at hj
            subst hj
            exact ⟨a, rfl, hall', fun k z hk => by omega⟩
          | succ j =>
            obtain ⟨a', h1, h2, h3⟩ := ih as (i + 1) ((i, x) :: pre) h j y (by simpa using hj)
            refine ⟨a', by simpa using h1, fun p hp => h2 p (by simp [hp]), fun k z hk hz => ?_⟩
            cases k with
            | zero =>
              simp only [List.getElem?_cons_zero, Option.some.injEq] at hz
              subst hz
              exact h2 (i, x) (by simp)
            | succ k => rw [show i + (k + 1) = i + 1 + k by omega]; exact h3 k z (by omega) (by simpa using hz)
        · cases h

theorem slotTrs_ok (ops L : List Oper) (j : Nat) (o : Oper) (h : L[j]? = some o) : (slotTrs ops L)[j]? = some ⟨bitsOf (namesOp ops o), bitsOf o.dst.toList, 0⟩ := by
  induction L generalizing j with
  | nil => simp at h
  | cons x r ih =>
    cases j with
    | zero => simp at h; subst h; simp [slotTrs, fNat_eq]
    | succ j => simpa [slotTrs] using ih j (by simpa using h)

theorem okBack_ok (L : List Oper) : ∀ (n : Nat), okBack L n = true → ∀ (j : Nat) (o : Oper), L[j]? = some o → ∀ e ∈ o.after.toList, Region.binds .any e = true → e.on < n + j := by
  induction L with
  | nil => intro n _ j o h; simp at h
  | cons x r ih =>
    intro n h j o hj e he hb
    simp only [okBack, fNat_eq, Bool.and_eq_true, List.all_eq_true, Bool.or_eq_true, Bool.not_eq_true', Nat.blt_eq] at h
    cases j with
    | zero =>
      simp at hj
      subst hj
      rcases h.1 e he with h' | h'
      · rw [hb] at h'; cases h'
      · omega
    | succ j =>
      have := ih (n + 1) h.2 j o (by simpa using hj) e he hb
      omega

end Go.Am

namespace Go.Am

/-! A place: its values at the steps of the text's order; the operations that write it. -/
section place
variable {α : Type} {L : Nat} {val : Nat → α} {W : Nat → Prop}
theorem place_up (hfr : ∀ k, k < L → ¬ W k → val (k + 1) = val k) (a d : Nat) (h : a + d ≤ L) (hw : ∀ j, a ≤ j → j < a + d → ¬ W j) : val (a + d) = val a := by
  induction d with
  | zero => rfl
  | succ d ih => rw [show a + (d + 1) = a + d + 1 by omega, hfr (a + d) (by omega) (hw _ (by omega) (by omega)), ih (by omega) fun j h1 h2 => hw j h1 (by omega)]
theorem place_eq (hfr : ∀ k, k < L → ¬ W k → val (k + 1) = val k) {a b : Nat} (ha : a ≤ L) (hb : b ≤ L) (h : ∀ j, j < L → W j → (j < a ↔ j < b)) : val a = val b := by
  rcases Nat.le_total a b with hab | hab
  · have := place_up hfr a (b - a) (by omega) fun j h1 h2 hw => by have := h j (by omega) hw; omega
    rw [show a + (b - a) = b by omega] at this
    exact this.symm
  · have := place_up hfr b (a - b) (by omega) fun j h1 h2 hw => by have := h j (by omega) hw; omega
    rw [show b + (a - b) = a by omega] at this
    exact this
/-- A place, when the operations of S were run. -/
def At (L : Nat) (val : Nat → α) (W S : Nat → Prop) (R : α → Prop) : Prop := ∃ k, k ≤ L ∧ (∀ j, j < L → W j → (S j ↔ j < k)) ∧ R (val k)
variable {S S' : Nat → Prop} {R R' : α → Prop}
theorem At.read (hfr : ∀ k, k < L → ¬ W k → val (k + 1) = val k) {i : Nat} (hi : i < L) (hS : ∀ j, j < L → W j → (S j ↔ j < i)) (h : At L val W S R) : R (val i) := by
  obtain ⟨k, hk, hj, hr⟩ := h
  rw [place_eq hfr (Nat.le_of_lt hi) hk fun j h1 h2 => (hS j h1 h2).symm.trans (hj j h1 h2)]
  exact hr
theorem At.write {i : Nat} (hi : i < L) (hS : ∀ j, j < L → W j → (S j ↔ j < i)) (hS' : ∀ j, S' j ↔ (S j ∨ j = i)) (hr : R' (val (i + 1))) : At L val W S' R' :=
  ⟨i + 1, by omega, fun j h1 h2 => by rw [hS' j, hS j h1 h2]; omega, hr⟩
theorem At.keep {i : Nat} (hw : ¬ W i) (hS' : ∀ j, S' j ↔ (S j ∨ j = i)) (hr : ∀ x, R x → R' x) (h : At L val W S R) : At L val W S' R' := by
  obtain ⟨k, hk, hj, h⟩ := h
  refine ⟨k, hk, fun j h1 h2 => ?_, hr _ h⟩
  rw [hS' j, hj j h1 h2]
  exact ⟨fun h => h.resolve_right fun e => hw (e ▸ h2), .inl⟩
theorem At.last (hfr : ∀ k, k < L → ¬ W k → val (k + 1) = val k) (hall : ∀ j, j < L → S j) (h : At L val W S R) : R (val L) := by
  obtain ⟨k, hk, hj, hr⟩ := h
  rw [place_eq hfr (Nat.le_refl L) hk fun j h1 h2 => ⟨fun _ => (hj j h1 h2).1 (hall j h1), fun _ => h1⟩]
  exact hr
end place

/-- What is known of a region by its text and by its run in the text's order. -/
structure Stat (E : Env) (ops : Array Oper) (lo : Nat) (ys : List (Nat × LRec)) (S : Nat → St) (tr : Nat → Tr) (ah : Nat → Nat → Prop) : Prop where
  step : ∀ (k : Nat) (o : Oper), ops[k]? = some o → StepGoes E ops o (S k) (S (k + 1)) (tr k) lo ys
  ord : ∀ i j, i < j → j < ops.size → clash (tr i) (tr j) = true → ah j i
  slot : ∀ (i j : Nat) (oi oj : Oper) (t : Nat), i < j → ops[i]? = some oi → ops[j]? = some oj → ((oi.dst = some t ∧ t ∈ namesOp ops.toList oj) ∨ (oj.dst = some t ∧ t ∈ namesOp ops.toList oi)) → ah j i
  ahd : ∀ (j : Nat) (o : Oper) (i : Nat), ops[j]? = some o → ah j i → ∃ e ∈ o.after, Region.binds .any e = true ∧ e.on < j ∧ (i = e.on ∨ ah e.on i)
  back : ∀ (j : Nat) (o : Oper) (e : Edge), ops[j]? = some o → e ∈ o.after → Region.binds .any e = true → e.on < j

def blkAt (S : Nat → St) (n : Nat) (k : Nat) : Option Blk × Prop := ((S k).H.get n, n < (S k).H.next)

section
variable {E : Env} {ops : Array Oper} {lo : Nat} {ys : List (Nat × LRec)} {S : Nat → St} {tr : Nat → Tr} {ah : Nat → Nat → Prop}

theorem Stat.blk_frame (h : Stat E ops lo ys S tr ah) (n k : Nat) (hk : k < ops.size) (hw : ¬ (tr k).writes n) : blkAt S n (k + 1) = blkAt S n k := by
  have hL := (h.step k ops[k] (by simp [hk])).1
  simp only [Tr.writes, not_or, Bool.not_eq_true] at hw
  obtain ⟨h1, h2⟩ := hL.get n hw.1 hw.2
  exact Prod.ext h1 (propext h2)
theorem Stat.js_frame (h : Stat E ops lo ys S tr ah) (k : Nat) (hk : k < ops.size) (hw : ¬ (tr k).all = 2) : (S (k + 1)).H.js = (S k).H.js := (h.step k ops[k] (by simp [hk])).1.js hw
theorem Stat.tm_frame (h : Stat E ops lo ys S tr ah) (t k : Nat) (hk : k < ops.size) (hw : ¬ ∃ o, ops[k]? = some o ∧ o.dst = some t) : (S (k + 1)).tm.get t = (S k).tm.get t := by
  have ho : ops[k]? = some ops[k] := by simp [hk]
  obtain ⟨_, _, x, hx, _⟩ := h.step k _ ho
  rw [hx, if_neg fun e => hw ⟨_, ho, e.1⟩]
theorem Stat.tmn (h : Stat E ops lo ys S tr ah) (k : Nat) (hk : k ≤ ops.size) : (S k).tm.n = (S 0).tm.n := by
  induction k with
  | zero => rfl
  | succ k ih => rw [(h.step k (ops[k]'(by omega)) (by simp)).2.1, ih (by omega)]

/-- The state when the operations of a set were run. -/
structure Inv (E : Env) (ops : Array Oper) (lo : Nat) (ys : List (Nat × LRec)) (S : Nat → St) (tr : Nat → Tr) (ah : Nat → Nat → Prop) (C0 : Ctx) (a0 : Act) (X : Nat → Prop) (C : Ctx) (a : Act) : Prop where
  le : Le C0 C
  good : Good C
  blk : ∀ n, At ops.size (blkAt S n) (fun j => (tr j).writes n) X fun b => C.get n = b.1 ∧ (C.born n ↔ b.2)
  js : At ops.size (fun k => (S k).H.js) (fun j => (tr j).all = 2) X fun l => C.js = l
  tm : ∀ t, At ops.size (fun k => (S k).tm.get t) (fun j => ∃ o, ops[j]? = some o ∧ o.dst = some t) X fun x => VR C x (a.tmps.getD t undef)
  size : a.tmps.size = (S 0).tm.n
  low : ∀ n, n < lo → C.get n = C0.get n
  jsk : ∀ (k : Nat), k < C0.js.length → (∀ p ∈ ys, p.1 ≠ k) → C.js[k]? = C0.js[k]?
  defers : a.defers = a0.defers
  closed : ∀ j, j < ops.size → X j → ∀ i, ah j i → X i

theorem put_get (a : Act) (dst : Option Tmp) (v : Value) (t : Nat) : (a.put dst v).tmps.getD t undef = if dst = some t ∧ t < a.tmps.size then v else a.tmps.getD t undef := by
  cases dst with
  | none => simp [Act.put]
  | some d =>
    simp only [Act.put, Array.getD_eq_getD_getElem?, Array.getElem?_setIfInBounds]
    by_cases h : d = t
    · subst h
      by_cases hd : d < a.tmps.size
      · simp [hd]
      · simp [hd]
    · rw [if_neg h, if_neg (fun e => h (by simpa using e.1))]

/-- One operation that may come up. -/
theorem Inv.step (hS : Stat E ops lo ys S tr ah) {C0 : Ctx} {a0 : Act} {X X' : Nat → Prop} {C : Ctx} {a : Act} (g0 : Good C0) (hborn0 : ∀ m, m < lo → C0.born m) (hY : YRel C0 ys) (h : Inv E ops lo ys S tr ah C0 a0 X C a)
    {j : Nat} {o : Oper} (ho : ops[j]? = some o) (hX : ¬ X j) (hrdy : ∀ e ∈ o.after, Region.binds .any e = true → X e.on) (hX' : ∀ i, X' i ↔ (X i ∨ i = j)) {F : Fence} {rd : Bool} {n : Nat} (hF : FenceOK rd F)
    (K : Act → World → Prop) (Q : Exit → Act → World → Prop) (hK : ∀ C' a', Inv E ops lo ys S tr ah C0 a0 X' C' a' → K a' C'.w) :
    if Region.wanted o (yielded ops a.tmps) = true then o.wpIn F n E.P a C.w K Q else (∀ f, o.about E.P C.w a.eval = some f → F.fn f) ∧ K (a.put o.dst undef) C.w := by
  have hj : j < ops.size := (Array.getElem?_eq_some_iff.1 ho).1
  have hah : ∀ i, ah j i → X i := fun i hi => by
    obtain ⟨e, h1, h2, h3, h4⟩ := hS.ahd j o i ho hi
    rcases h4 with rfl | h4
    · exact hrdy e h1 h2
    · exact h.closed e.on (by omega) (hrdy e h1 h2) i h4
  -- an operation that clashes with this one was run just where it comes before it in the text
  have hord : ∀ i, i < ops.size → (i < j → ah j i) → (j < i → ah i j) → (X i ↔ i < j) := fun i hi h1 h2 => by
    rcases Nat.lt_trichotomy i j with hlt | rfl | hgt
    · exact ⟨fun _ => hlt, fun _ => hah i (h1 hlt)⟩
    · exact ⟨fun hx => absurd hx hX, fun h => absurd h (Nat.lt_irrefl _)⟩
    · exact ⟨fun hx => absurd (h.closed i hi hx j (h2 hgt)) hX, fun h => by omega⟩
  have oW : ∀ n, touches (tr j) n → ∀ i, i < ops.size → (tr i).writes n → (X i ↔ i < j) := fun n hn i hi hw =>
    hord i hi (fun hlt => hS.ord i j hlt hj (clash_of (.inl ⟨hw, hn⟩))) fun hlt => hS.ord j i hlt hi (clash_of (.inr ⟨hn, hw⟩))
  have oJ : (tr j).all ≠ 0 → ∀ i, i < ops.size → (tr i).all = 2 → (X i ↔ i < j) := fun hn i hi hw => oW 0 (.inr (.inr hn)) i hi (.inr hw)
  have oT : ∀ t, t ∈ namesOp ops.toList o → ∀ i, i < ops.size → (∃ oi, ops[i]? = some oi ∧ oi.dst = some t) → (X i ↔ i < j) := fun t ht i hi hw => by
    obtain ⟨oi, h1, h2⟩ := hw
    exact hord i hi (fun hlt => hS.slot i j oi o t hlt h1 ho (.inl ⟨h2, ht⟩)) fun hlt => hS.slot j i o oi t hlt ho h1 (.inr ⟨h2, ht⟩)
  obtain ⟨hL, hn, x, hx, hgo⟩ := hS.step j o ho
  have hA : Agrees C (S j).H (tr j) := by
    refine ⟨fun n hn => ?_, fun hn => ?_⟩
    · have := (h.blk n).read (hS.blk_frame n) hj (oW n hn)
      exact this
    · exact h.js.read hS.js_frame hj (oJ hn)
  have hnm : ∀ t ∈ namesOp ops.toList o, VR C ((S j).tm.get t) (a.tmps.getD t undef) := fun t ht => (h.tm t).read (hS.tm_frame t) hj (oT t ht)
  have hfr : ∃ m, ¬ C.born m := by
    have bnd : ∀ k, ∃ N, ∀ i, i ≤ k → (S i).H.next ≤ N := fun k => by
      induction k with
      | zero => exact ⟨(S 0).H.next, fun i hi => by rw [show i = 0 by omega]; exact Nat.le_refl _⟩
      | succ k ih =>
        obtain ⟨N, hN⟩ := ih
        refine ⟨N + (S (k + 1)).H.next, fun i hi => ?_⟩
        rcases Nat.lt_or_ge i (k + 1) with h | h
        · have := hN i (by omega); omega
        · rw [show i = k + 1 by omega]; omega
    obtain ⟨N, hN⟩ := bnd ops.size
    refine ⟨N, fun hb => ?_⟩
    obtain ⟨k, hk, _, hr⟩ := h.blk N
    have h1 : N < (S k).H.next := hr.2.1 hb
    have h2 := hN k hk
    omega
  refine hgo C a F rd n h.good hA (fun m hm => h.le.born m (hborn0 m hm)) hfr (hY.mono h.le) hnm hF K Q fun C' v d hv => hK C' _ ?_
  have hX0 : ∀ i, X i → X' i := fun i hi => (hX' i).2 (.inl hi)
  refine { le := h.le.trans d.le, good := d.good, blk := fun n => ?_, js := ?_, tm := fun t => ?_, size := ?_, low := fun n hn => (d.low n hn).trans (h.low n hn), jsk := fun k hk hp => ?_, defers := (put_defers _ _ _).trans h.defers, closed := fun i hi hXi k hk => ?_ }
  · by_cases hw : (tr j).writes n
    · have ht : touches (tr j) n := hw.elim (fun h => .inr (.inl h)) fun h => .inr (.inr (by omega))
      exact .write hj (oW n ht) hX' (d.get n hw)
    · have hw' := hw
      simp only [Tr.writes, not_or, Bool.not_eq_true] at hw'
      obtain ⟨e1, e2⟩ := d.same n hw'.1 hw'.2
      exact (h.blk n).keep hw hX' fun b hb => ⟨e1.trans hb.1, e2.trans hb.2⟩
  · by_cases hw : (tr j).all = 2
    · exact .write hj (oJ (by omega)) hX' (d.js2 hw)
    · exact h.js.keep hw hX' fun l hl => (d.js hw).trans hl
  · by_cases hw : ∃ o', ops[j]? = some o' ∧ o'.dst = some t
    · obtain ⟨o', e1, e2⟩ := hw
      rw [ho] at e1
      cases e1
      have ht : t ∈ namesOp ops.toList o := by simp [namesOp, e2]
      refine .write hj (oT t ht) hX' ?_
      show VR C' ((S (j + 1)).tm.get t) _
      rw [hx t, put_get, e2]
      have hsz : (S j).tm.n = a.tmps.size := by rw [hS.tmn j (by omega), h.size]
      rw [hsz]
      by_cases hlt : t < a.tmps.size
      · rw [if_pos ⟨rfl, hlt⟩, if_pos ⟨rfl, hlt⟩]; exact hv
      · rw [if_neg (fun e => hlt e.2), if_neg (fun e => hlt e.2)]; exact (hnm t ht).mono d.le
    · refine (h.tm t).keep hw hX' fun y hy => ?_
      rw [put_get, if_neg fun e => hw ⟨o, ho, e.1⟩]
      exact hy.mono d.le
  · rw [← h.size]
    cases o.dst <;> simp [Act.put]
  · exact (d.jsk k (Nat.lt_of_lt_of_le hk (g0.jslen h.good h.le)) hp).trans (h.jsk k hk hp)
  · rcases (hX' i).1 hXi with hXi | rfl
    · exact hX0 _ (h.closed i hi hXi k hk)
    · exact hX0 _ (hah k hk)

theorem countP_lt {l : List Nat} {p q : Nat → Bool} (hpq : ∀ i ∈ l, q i = true → p i = true) {j : Nat} (hj : j ∈ l) (h1 : p j = true) (h2 : q j = false) : l.countP q < l.countP p := by
  induction l with
  | nil => cases hj
  | cons x r ih =>
    have mono : r.countP q ≤ r.countP p := List.countP_mono_left fun i hi h => hpq i (by simp [hi]) h
    rcases List.mem_cons.1 hj with rfl | hj
    · rw [List.countP_cons_of_pos (p := p) h1, List.countP_cons_of_neg (p := q) (by simp [h2])]
      omega
    · have := ih (fun i hi => hpq i (by simp [hi])) hj
      by_cases hq : q x = true
      · rw [List.countP_cons_of_pos (p := q) hq, List.countP_cons_of_pos (p := p) (hpq x (by simp) hq)]
        omega
      · rw [List.countP_cons_of_neg (p := q) hq]
        by_cases hp : p x = true
        · rw [List.countP_cons_of_pos (p := p) hp]; omega
        · rw [List.countP_cons_of_neg (p := p) hp]; omega

theorem drawn_any (hS : Stat E ops lo ys S tr ah) {C0 : Ctx} {a0 : Act} (g0 : Good C0) (hborn0 : ∀ m, m < lo → C0.born m) (hY : YRel C0 ys) {F : Fence} {rd : Bool} {n : Nat} (hF : FenceOK rd F) (Q : Exit → Act → World → Prop)
    (hQ : ∀ C a, Inv E ops lo ys S tr ah C0 a0 (fun j => j < ops.size) C a → Q .normal a C.w) : ∀ (fuel : Nat) (listed : Array Bool) (C : Ctx) (a : Act), listed.size = ops.size →
      (List.range ops.size).countP (fun i => !listed.getD i true) ≤ fuel → Inv E ops lo ys S tr ah C0 a0 (fun j => listed.getD j false = true) C a → wpAnyIn F n E.P .any ops Q fuel listed a C.w := by
  have hall : ∀ (listed : Array Bool) (C : Ctx) (a : Act), listed.size = ops.size → (∀ j, j < ops.size → listed.getD j true = true) → Inv E ops lo ys S tr ah C0 a0 (fun j => listed.getD j false = true) C a → Q .normal a C.w := by
    intro listed C a hsz hl hI
    refine hQ C a ?_
    have : (fun j => listed.getD j false = true) = fun j => j < ops.size := by
      funext j
      refine propext ⟨fun h => ?_, fun h => ?_⟩
      · rw [← hsz]
        rcases Nat.lt_or_ge j listed.size with h' | h'
        · exact h'
        · simp [Array.getD, Nat.not_lt.2 h'] at h
      · have := hl j h
        simp [Array.getD, hsz, h] at this ⊢
        exact this
    rw [this] at hI
    exact hI
  have hnil : ∀ (listed : Array Bool), listed.size = ops.size → Region.ready .any ops listed = [] → ∀ j, j < ops.size → listed.getD j true = true := by
    intro listed hsz hr j
    induction j using Nat.strongRecOn with
    | _ j ih =>
      intro hj
      cases hl : listed.getD j true with
      | true => rfl
      | false =>
        exfalso
        have : j ∈ Region.ready .any ops listed := mem_ready.2 ⟨hl, ops[j], by simp [hj], fun e he hb => by
          have hlt := hS.back j ops[j] e (by simp [hj]) he hb
          have := ih e.on hlt (by omega)
          have h2 : e.on < listed.size := by omega
          simp [Array.getD, h2] at this ⊢
          exact this⟩
        rw [hr] at this
        cases this
  intro fuel
  induction fuel with
  | zero =>
    intro listed C a hsz hc hI
    have hl : ∀ j, j < ops.size → listed.getD j true = true := fun j hj => by
      have h0 : (List.range ops.size).countP (fun i => !listed.getD i true) = 0 := by omega
      have := List.countP_eq_zero.1 h0 j (by simp [hj])
      simpa using this
    refine ⟨?_, hall listed C a hsz hl hI⟩
    refine List.eq_nil_iff_forall_not_mem.2 fun j hj => ?_
    obtain ⟨h1, o, h2, _⟩ := mem_ready.1 hj
    rw [hl j (Array.getElem?_eq_some_iff.1 h2).1] at h1
    cases h1
  | succ fuel ih =>
    intro listed C a hsz hc hI
    refine ⟨fun hr => hall listed C a hsz (hnil listed hsz hr) hI, fun j hj => ?_⟩
    obtain ⟨h1, o, h2, h3⟩ := mem_ready.1 hj
    have hjlt : j < ops.size := (Array.getElem?_eq_some_iff.1 h2).1
    unfold wpOpIn
    rw [h2]
    have hgf : ∀ i, (listed.setIfInBounds j true).getD i false = true ↔ (listed.getD i false = true ∨ i = j) := fun i => by
      simp only [Array.getD_eq_getD_getElem?, Array.getElem?_setIfInBounds]
      by_cases hij : j = i
      · subst hij; simp [hsz, hjlt]
      · rw [if_neg hij]
        exact ⟨.inl, fun h => h.resolve_right fun e => hij e.symm⟩
    refine hI.step hS g0 hborn0 hY h2 (X' := fun i => (listed.setIfInBounds j true).getD i false = true) ?_ (fun e he hb => h3 e he hb) hgf hF _ Q fun C' a' hI' => ih _ C' a' (by simpa using hsz) ?_ hI'
    · intro h
      simp [Array.getD, hsz, hjlt] at h h1
      rw [h] at h1
      cases h1
    · have : (List.range ops.size).countP (fun i => !(listed.setIfInBounds j true).getD i true) < (List.range ops.size).countP (fun i => !listed.getD i true) := by
        refine countP_lt (fun i hi h => ?_) (j := j) (by simp [hjlt]) (by simp [h1]) ?_
        · have hi' : i < ops.size := by simpa using hi
          simp only [Array.getD_eq_getD_getElem?, Array.getElem?_setIfInBounds] at h ⊢
          by_cases hij : j = i
          · subst hij; simp [hsz, hjlt] at h
          · rw [if_neg hij] at h; exact h
        · simp [Array.getD, hsz, hjlt]
      omega
end

end Go.Am

namespace Go.Am

theorem Post.trans {C : Ctx} {lo : Nat} {ys : List (Nat × LRec)} {a a1 : Act} {s1 s2 : St} {x : AX} {e : Exit} {a2 : Act} {w2 : World} (g : Good C) {C1 : Ctx} {ds : List Nat} (hA : After C C1 lo ys s1.H)
    (hd : a1.defers = marked ds ++ a.defers) (hm : Marks C C1 ds) (h : Post C1 lo ys a1 x s2 e a2 w2) : Post C lo ys a x s2 e a2 w2 := by
  obtain ⟨he, C2, es, hw, hA2, hT2, hd2, hm2⟩ := h
  refine ⟨he, C2, es ++ ds, hw, hA.trans g hA2, hT2, ?_, hm.append hA.good hA.le hA2.le hm2⟩
  rw [hd2, hd]
  simp [marked]

/-- Behind a round of a loop. -/
def LoopTail (F : Fence) (n : Nat) (P : Program) (c : Code) (Q : Exit → Act → World → Prop) (a : Act) (w : World) : Prop :=
  ∀ (b : Frame) (k : List Item) (cs : List Frame), b.roundOf = F.round → F.fn b.fn → F.room (cs.length + 1 + n) →
    ∃ e a' w', Q e a' w' ∧ ArrivesIn (Machine.fenced P F) P (lone (b.atR a (.inLoop c :: k)) cs w) b k cs e a' w'
section
variable {F : Fence} {n : Nat} {P : Program} {c : Code} {Q : Exit → Act → World → Prop} {a : Act} {w : World}
theorem loop_arrives (h : c.wpIn F n P (Exit.then (LoopTail F n P c Q) Q) a w) (b : Frame) (k : List Item) (cs : List Frame) (hro : b.roundOf = F.round) (hb : F.fn b.fn) (hr : F.room (cs.length + 1 + n)) :
    ∃ e a' w', Q e a' w' ∧ ArrivesIn (Machine.fenced P F) P (lone (b.atR a (.code c :: .inLoop c :: k)) cs w) b k cs e a' w' := by
  obtain ⟨e, a₁, w₁, hq, harr⟩ := h b (.inLoop c :: k) cs hro hb hr
  cases e with
  | normal =>
    obtain ⟨e₂, a₂, w₂, hq₂, harr₂⟩ := hq b k cs hro hb hr
    exact ⟨e₂, a₂, w₂, hq₂, .of_steps harr harr₂⟩
  | exit id => exact ⟨_, a₁, w₁, hq, .pass (x := .inLoop c) rfl (fun _ _ => .inl (by simp)) harr⟩
  | goto l => exact ⟨_, a₁, w₁, hq, .pass (x := .inLoop c) rfl (fun _ _ => .inl (by simp)) harr⟩
  | ret => exact ⟨_, a₁, w₁, hq, .pass (x := .inLoop c) rfl (fun _ _ => .inl (by simp)) harr⟩
  | panic ch => exact ⟨_, a₁, w₁, hq, .pass (x := .inLoop c) rfl (fun _ _ => .inl (by simp)) harr⟩
  | outgrown => exact ⟨_, a₁, w₁, hq, .pass (x := .inLoop c) rfl (fun _ _ => .inl (by simp)) harr⟩
theorem LoopTail.intro (h : c.wpIn F n P (Exit.then (LoopTail F n P c Q) Q) a w) : LoopTail F n P c Q a w := fun b k cs hro hb hr =>
  let ⟨e, a', w', q, r⟩ := loop_arrives h b k cs hro hb hr
  ⟨e, a', w', q, .of_steps (.one (fenced_calm hb hr rfl) stepR_inLoop) r⟩
theorem wpIn_loop_tail (h : c.wpIn F n P (Exit.then (LoopTail F n P c Q) Q) a w) : (Code.loop c).wpIn F n P Q a w := fun b k cs hro hb hr =>
  let ⟨e, a', w', q, r⟩ := loop_arrives h b k cs hro hb hr
  ⟨e, a', w', q, .of_steps (.one (fenced_calm hb hr rfl) stepR_loop) r⟩
end

section
variable {E : Env} {go : Run} {ys : List (Nat × LRec)} {lo : Nat}
/-- A region that draws its order. -/
theorem region_drawn (hE : ProgOK E) (hgo : GoOK E go) {ops : Array Oper} {s s' : St} {trs : List Tr} (h : runOps E (callF E go ys lo) lo ops.toList ops.toList s = some (s', trs))
    (hok : (okBack ops.toList 0 && okPairs (aheads ops.toList [] 0) (slotTrs ops.toList ops.toList) 0 [] && okPairs (aheads ops.toList [] 0) trs 0 []) = true) {C : Ctx} {a : Act} {F : Fence} {rd : Bool} {n : Nat} (hF : FenceOK rd F) (g : Good C) (hH : HR C s.H) (hlo : lo ≤ s.H.next)
    (hT : TR C s.tm a.tmps) (hY : YRel C ys) (id : Nat) : (Code.region id ops true).wpIn F n E.P (Post C lo ys a .normal s') a C.w := by
  simp only [Bool.and_eq_true] at hok
  obtain ⟨⟨hb, hs⟩, ht⟩ := hok
  obtain ⟨S, rfl, rfl, hlen, hstep⟩ := runOps_seq h
  have hl : ∀ (j : Nat) (o : Oper), ops[j]? = some o → ops.toList[j]? = some o := fun j o ho => by simpa using ho
  have hsz : ops.toList.length = ops.size := by simp
  let ah : Nat → Nat → Prop := fun j i => ((aheads ops.toList [] 0).getD j 0).testBit i = true
  have hah := (aheads_ok ops.toList [] 0 rfl).2
  have hStat : Stat E ops lo ys S (fun k => trs.getD k ⟨0, 0, 0⟩) ah := by
    refine ⟨fun k o ho => ?_, fun i j hij hj hc => ?_, fun i j oi oj t hij hoi hoj hc => ?_, fun j o i ho hi => ?_, fun j o e ho he hbd => ?_⟩
    · obtain ⟨tr, h1, h2⟩ := hstep k o (hl k o ho)
      have : trs.getD k ⟨0, 0, 0⟩ = tr := by simp [List.getD_eq_getElem?_getD, h1]
      rw [this]
      exact stepOp_goes hE hgo h2
    · have hj' : j < trs.length := by rw [hlen, hsz]; exact hj
      obtain ⟨a', h1, _, h3⟩ := okPairs_ok trs _ _ _ ht j trs[j] (by simp [hj'])
      have hi' : i < trs.length := by omega
      rcases h3 i trs[i] hij (by simp [hi']) with h4 | h4
      · show ((aheads ops.toList [] 0).getD j 0).testBit i = true
        simpa [List.getD_eq_getElem?_getD, h1] using h4
      · simp [List.getD_eq_getElem?_getD, hi', hj', h4] at hc
    · obtain ⟨a', h1, _, h3⟩ := okPairs_ok _ _ _ _ hs j _ (slotTrs_ok ops.toList ops.toList j oj (hl j oj hoj))
      rcases h3 i _ hij (slotTrs_ok ops.toList ops.toList i oi (hl i oi hoi)) with h4 | h4
      · show ((aheads ops.toList [] 0).getD j 0).testBit i = true
        simpa [List.getD_eq_getElem?_getD, h1] using h4
      · exfalso
        have hcl : clash ⟨bitsOf (namesOp ops.toList oi), bitsOf oi.dst.toList, 0⟩ ⟨bitsOf (namesOp ops.toList oj), bitsOf oj.dst.toList, 0⟩ = true := by
          refine clash_of (n := t) ?_
          rcases hc with ⟨h5, h6⟩ | ⟨h5, h6⟩
          · exact .inl ⟨.inl (by simp [bitsOf_test, h5]), .inl (by simp [bitsOf_test, h6])⟩
          · exact .inr ⟨.inl (by simp [bitsOf_test, h6]), .inl (by simp [bitsOf_test, h5])⟩
        rw [hcl] at h4
        cases h4
    · obtain ⟨a', h1, h2⟩ := hah j o (hl j o ho)
      have hi' : a'.testBit i = true := by
        have : ((aheads ops.toList [] 0).getD j 0).testBit i = true := hi
        simpa [List.getD_eq_getElem?_getD, h1] using this
      obtain ⟨e, h3, h4, h5⟩ := h2 i hi'
      have := okBack_ok ops.toList 0 hb j o (hl j o ho) e h3 h4
      exact ⟨e, by simpa using h3, h4, by omega, h5.imp _root_.id fun h => by simpa [ah] using h⟩
    · have := okBack_ok ops.toList 0 hb j o (hl j o ho) e (by simpa using he) hbd
      omega
  refine wpIn_region_any hE.mixed ?_
  let w' : World := { C.w with drawn := C.w.drawn + 1 }
  have hle : Le C (C.grow w') := Ctx.grow_le g w' rfl rfl rfl (Nat.le_refl _) fun _ _ => rfl
  have hgd : Good (C.grow w') := Ctx.grow_good g w' rfl rfl rfl (Nat.le_refl _) fun _ _ => rfl
  have key := drawn_any (n := n) hStat (C0 := C) (a0 := a) g (fun m hm => (hH.born m).2 (by omega)) hY hF (Post C lo ys a .normal (S ops.toList.length)) (fun C' a' hI => ?_) ops.size (Array.replicate ops.size false) (C.grow w') a (by simp)
    (Nat.le_trans List.countP_le_length (by simp)) ?_
  · exact key
  · refine ⟨rfl, C', [], rfl, ⟨hI.le, hI.good, ⟨fun m => ?_, fun m => ?_, ?_⟩, hI.low, hI.jsk⟩, ⟨?_, fun t => ?_⟩, by simp [marked, hI.defers], .nil _ _⟩
    · rw [hsz]; exact ((hI.blk m).last (hStat.blk_frame m) fun _ h => h).1
    · rw [hsz]; exact ((hI.blk m).last (hStat.blk_frame m) fun _ h => h).2
    · rw [hsz]; exact hI.js.last hStat.js_frame fun _ h => h
    · rw [hsz, hStat.tmn _ (Nat.le_refl _), hI.size]
    · rw [hsz]; exact (hI.tm t).last (hStat.tm_frame t) fun _ h => h
  · have hX : ∀ j, ¬ (Array.replicate ops.size false).getD j false = true := fun j => by
      simp only [Array.getD_eq_getD_getElem?, Array.getElem?_replicate]
      split <;> simp
    have at0 : ∀ {α : Type} (val : Nat → α) (W : Nat → Prop) (R : α → Prop), R (val 0) → At ops.size val W (fun j => (Array.replicate ops.size false).getD j false = true) R := fun val W R hr =>
      ⟨0, Nat.zero_le _, fun j _ _ => ⟨fun h => absurd h (hX j), fun h => by omega⟩, hr⟩
    exact ⟨hle, hgd, fun m => at0 _ _ _ ⟨hH.get m, hH.born m⟩, at0 _ _ _ hH.js, fun t => at0 _ _ _ ((hT.2 t).mono hle), hT.1.symm, fun _ _ => rfl, fun _ _ _ => rfl, rfl, fun j _ h => absurd h (hX j)⟩

theorem region_inOrder (hE : ProgOK E) (hgo : GoOK E go) {ops : Array Oper} {s s' : St} {trs : List Tr} (h : runOps E (callF E go ys lo) lo ops.toList ops.toList s = some (s', trs)) {C : Ctx} {a : Act} {F : Fence} {rd : Bool} {n : Nat} (hF : FenceOK rd F) (g : Good C) (hH : HR C s.H) (hlo : lo ≤ s.H.next)
    (hT : TR C s.tm a.tmps) (hY : YRel C ys) (id : Nat) : (Code.region id ops false).wpIn F n E.P (Post C lo ys a .normal s') a C.w := by
  refine wpIn_region ?_
  have := runOps_goes (n := n) hE hgo (ops := ops) hF (Post C lo ys a .normal s') ops.toList 0 s s' trs C a rfl h g hH hT hY hlo fun C' a' hA hT' hd => ⟨rfl, C', [], rfl, hA, hT', by simp [marked, hd], .nil _ _⟩
  rw [List.range_eq_range']
  simpa using this
end

end Go.Am

namespace Go.Am

/-- A loop over a function is entered: its record; the block for the deferred calls. -/
def Ctx.enter (C : Ctx) (w1 : World) (r : Loop) : Ctx :=
  { C with w := w1, X := fun b => C.X b ∨ b = C.w.heap.size, lp := C.lp ++ [(C.w.heap.size + 1, r)], js := C.js ++ [.on] }

section
variable {C : Ctx} {w1 : World} {r : Loop}
theorem enter_le (g : Good C) (ho : w1.os = C.w.os) (ht : w1.tape = C.w.tape) (hu : w1.output = C.w.output) (hs : w1.heap.size = C.w.heap.size + 2) (hk : ∀ b, b < C.w.heap.size → w1.heap[b]? = C.w.heap[b]?) : Le C (C.enter w1 r) where
  os := ho
  tape := ht
  output := hu
  X := fun _ h => .inl h
  size := by show _ ≤ w1.heap.size; omega
  lp := fun k x h => by
    show (C.lp ++ _)[k]? = _
    rw [List.getElem?_append_left (List.getElem?_eq_some_iff.1 h).1]
    exact h
  xkeep := fun b hb => hk b (g.xlt b hb)
  keep := fun b hb hn => by
    refine ⟨hk b hb, ?_⟩
    rintro (((h | h) | ⟨k, q, h⟩) | h)
    · exact hn (.inl (.inl h))
    · omega
    · change (C.lp ++ [(C.w.heap.size + 1, r)])[k]? = some (b, q) at h
      rcases Nat.lt_or_ge k C.lp.length with hlt | hge
      · rw [List.getElem?_append_left hlt] at h
        exact hn (.inl (.inr ⟨k, q, h⟩))
      · rw [List.getElem?_append_right hge] at h
        rcases hkk : k - C.lp.length with _ | m
        · rw [hkk] at h
          simp at h
          omega
        · rw [hkk] at h
          simp at h
    · exact hn (.inr h)
  born := fun _ h => h
  ep := fun n b' _ h => ⟨b', h, Nat.le_refl _, fun _ => ⟨rfl, rfl, rfl⟩⟩

theorem enter_lp {k l : Nat} {q : Loop} (h : (C.enter w1 r).lp[k]? = some (l, q)) : C.lp[k]? = some (l, q) ∨ (k = C.lp.length ∧ l = C.w.heap.size + 1 ∧ q = r) := by
  change (C.lp ++ [(C.w.heap.size + 1, r)])[k]? = some (l, q) at h
  rcases Nat.lt_or_ge k C.lp.length with hlt | hge
  · rw [List.getElem?_append_left hlt] at h
    exact .inl h
  · rw [List.getElem?_append_right hge] at h
    rcases hkk : k - C.lp.length with _ | m
    · rw [hkk] at h
      simp at h
      exact .inr ⟨by omega, h.1.symm, h.2.symm⟩
    · rw [hkk] at h
      simp at h

theorem enter_good (g : Good C) (ho : w1.os = C.w.os) (ht : w1.tape = C.w.tape) (hu : w1.output = C.w.output) (hs : w1.heap.size = C.w.heap.size + 2) (hk : ∀ b, b < C.w.heap.size → w1.heap[b]? = C.w.heap[b]?)
    (hl : w1.heap[C.w.heap.size + 1]? = some (.loop { r with state := .ready, pending := none })) : Good (C.enter w1 r) where
  blk := fun n b h => (g.blk n b h).mono (enter_le g ho ht hu hs hk) rfl (hk _ (g.lt h))
  inj := g.inj
  notX := fun n b h hx => by
    rcases hx with hx | hx
    · exact g.notX n b h hx
    · have := g.lt h
      exact absurd hx (by show (C.β n).1 ≠ _; omega)
  born := g.born
  xlt := fun b hb => by
    show b < w1.heap.size
    rcases hb with hb | hb
    · have := g.xlt b hb; omega
    · omega
  lpn := by show (C.js ++ _).length = (C.lp ++ _).length; simp [g.lpn]
  lp := fun k l q s h1 h2 => by
    change (C.js ++ [.on])[k]? = some s at h2
    rcases enter_lp h1 with h1 | ⟨rfl, rfl, rfl⟩
    · have hlt : k < C.js.length := by rw [g.lpn]; exact (List.getElem?_eq_some_iff.1 h1).1
      rw [List.getElem?_append_left hlt] at h2
      exact (g.lp k l q s h1 h2).mono (hk _ (g.lp_lt h1)) (by show _ ≤ w1.heap.size; omega)
    · rw [List.getElem?_append_right (by rw [g.lpn]; omega)] at h2
      simp [g.lpn] at h2
      subst h2
      exact hl
  lpX := fun k l q h => by
    rcases enter_lp h with h | ⟨rfl, rfl, rfl⟩
    · refine ⟨?_, (g.lpX k l q h).2⟩
      rintro (hx | hx)
      · exact (g.lpX k l q h).1 hx
      · have := g.lp_lt h; omega
    · refine ⟨?_, fun n b hn e => ?_⟩
      · rintro (hx | hx)
        · have := g.xlt _ hx; omega
        · omega
      · have := g.lt hn
        change (C.β n).1 = _ at e
        omega
  lpi := fun k m l q q' h1 h2 => by
    rcases enter_lp h1 with k1 | ⟨k1, k2, _⟩ <;> rcases enter_lp h2 with k3 | ⟨k3, k4, _⟩
    · exact g.lpi k m l q q' k1 k3
    · have := g.lp_lt k1; omega
    · have := g.lp_lt k3; omega
    · omega
end

theorem heap_alloc' (w : World) (o : Obj) (b : Nat) (hb : b < w.heap.size) : (w.alloc o).heap[b]? = w.heap[b]? := by
  exact Go.RowKit.Below.heap_alloc w o b hb

section
variable {E : Env} {go : Run}

theorem range_goes (hE : ProgOK E) (hgo : GoOK E go) {ys : List (Nat × LRec)} {lo : Nat} {f : Operand} {params : Array Tmp} {assign body : Code} {s s' : St} {x : AX}
    (h : execF E go false ys lo (.rangeFunc f params assign body) s = some (x, s')) {C : Ctx} {a : Act} {F : Fence} {n : Nat} (hF : FenceOK false F) (g : Good C) (hH : HR C s.H) (hlo : lo ≤ s.H.next) (hT : TR C s.tm a.tmps) (hY : YRel C ys) :
    (Code.rangeFunc f params assign body).wpIn F n E.P (Post C lo ys a x s') a C.w := by
  simp only [execF, Bool.false_eq_true, if_false] at h
  split at h
  · rename_i gf caps hfn
    split at h
    · split at h
      · cases h
      rename_i r H' hcall
      obtain ⟨vs, hev, hcl, hcr⟩ := (hfn ▸ aev_rel (C := C) (tm := s.tm) (a := a) f fun t _ => hT.2 t).fn_inv
      refine wpIn_rangeFunc fun fn _ => ?_
      rw [hF.2.2.1 rfl]
      obtain ⟨w1, hw1⟩ : ∃ w1, (C.w.alloc (.deferred (some []))).alloc (.loop { state := .ready, pending := none, fn, tmps := a.tmps, params, assign, body, defers := C.w.heap.size }) = w1 := ⟨_, rfl⟩
      obtain ⟨rec, hrec⟩ : ∃ rec : Loop, rec = { state := .ready, pending := none, fn, tmps := a.tmps, params, assign, body, defers := C.w.heap.size } := ⟨_, rfl⟩
      have hs : w1.heap.size = C.w.heap.size + 2 := by rw [← hw1]; simp
      have hk : ∀ b, b < C.w.heap.size → w1.heap[b]? = C.w.heap[b]? := fun b hb => by
        rw [← hw1]
        exact (heap_alloc' _ _ _ (by simp; omega)).trans (heap_alloc' _ _ _ hb)
      have hl1 : w1.heap[C.w.heap.size + 1]? = some (.loop { rec with state := .ready, pending := none }) := by
        rw [← hw1, hrec]
        have := World.alloc_heap_new (C.w.alloc (.deferred (some []))) (.loop { state := .ready, pending := none, fn, tmps := a.tmps, params, assign, body, defers := C.w.heap.size })
        rwa [World.size_alloc] at this
      have hD1 : w1.heap[C.w.heap.size]? = some (.deferred (some [])) := by
        rw [← hw1]
        exact (heap_alloc' _ _ _ (by simp)).trans (World.alloc_heap_new C.w _)
      have ho1 : w1.os = C.w.os := by rw [← hw1]; rfl
      have ht1 : w1.tape = C.w.tape := by rw [← hw1]; rfl
      have hu1 : w1.output = C.w.output := by rw [← hw1]; rfl
      have hle1 := enter_le (r := rec) g ho1 ht1 hu1 hs hk
      have g1 := enter_good (r := rec) g ho1 ht1 hu1 hs hk hl1
      have hlast : (C.enter w1 rec).lp[C.lp.length]? = some (C.w.heap.size + 1, rec) := by
        show (C.lp ++ _)[C.lp.length]? = _
        rw [List.getElem?_append_right (Nat.le_refl _)]
        simp
      have hkk : s.H.js.length = C.lp.length := by rw [← hH.js, g.lpn]
      have hH1 : HR (C.enter w1 rec) { s.H with js := s.H.js ++ [.on] } := ⟨hH.get, hH.born, by show C.js ++ _ = _; rw [hH.js]⟩
      have hY1 : YRel (C.enter w1 rec) ((s.H.js.length, ⟨s.tm, params.toList, assign, body⟩) :: ys) := by
        intro p hp
        rcases List.mem_cons.1 hp with rfl | hp
        · exact ⟨_, rec, by rw [hkk]; exact hlast, by rw [hrec], by rw [hrec], by rw [hrec], by show TR _ s.tm rec.tmps; rw [show rec.tmps = a.tmps by rw [hrec]]; exact hT.mono hle1⟩
        · exact (hY.mono hle1) p hp
      have hargs : ARel (C.enter w1 rec) (.yl s.H.js.length :: caps) (#[.func (.yield (C.w.heap.size + 1)) #[] #[]] ++ vs) := by
        have h0 : ARel (C.enter w1 rec) [.yl s.H.js.length] #[.func (.yield (C.w.heap.size + 1)) #[] #[]] := ⟨rfl, fun i hi => by
          have : i = 0 := by simpa using hi
          subst this
          exact .yl _ _ rec (by rw [hkk]; exact hlast)⟩
        exact h0.append (fun i hi => (hcr i hi).mono hle1) hcl
      obtain ⟨k1, gfn, gcd, k2, k3⟩ := call_ok hgo hcall g1 hH1 hlo hargs hY1 F hF (n - 1)
      refine ⟨C.w.heap.size + 1, [{ target := .collected C.w.heap.size, args := #[] }], w1, { target := .fn (.func gf) vs, args := #[.func (.yield (C.w.heap.size + 1)) #[] #[]] }, w1, gf, #[.func (.yield (C.w.heap.size + 1)) #[] #[]] ++ vs, w1, ?_, ?_, fun f' _ => hF.1 f', ?_, hF.room, ?_⟩
      · rw [← hw1]; exact run_enterLoop_outer _ _ _ _ _
      · simp only [resolve, hev]
        simp [go_sem, Deferred.ofValue, Act.eval]
      · simp only [invoke]
        exact run_callFunc k2 k3 (hE.noNG gf gfn k2) _ _
      · refine k1.mono ?_
        rintro e w' ⟨v, rfl, C2, rfl, hA2, hX2, _⟩
        have hl2 := hA2.le.lp _ _ hlast
        have hD2 : C2.w.heap[C.w.heap.size]? = some (.deferred (some [])) := (hA2.le.xkeep _ (.inr rfl)).trans hD1
        have hlt2 : C.w.heap.size + 1 < C2.w.heap.size := hA2.good.lp_lt hl2
        have hend : ∀ (st : LoopState) (pe : Option Code), C2.w.heap[C.w.heap.size + 1]? = some (.loop { rec with state := st, pending := pe }) → st ≠ .busy →
            ∃ C3, (Instr.endLoop (C.w.heap.size + 1)).run E.P C2.w = .ok pe C3.w ∧ After C C3 lo ys { H' with js := H'.js.set s.H.js.length .off } ∧ Marks C C3 [C.w.heap.size] := by
          intro st pe hobj hst
          obtain ⟨u1, u2, u3⟩ := record_turn hA2.good hl2 (.loop { ({ rec with state := st, pending := pe } : Loop) with state := .exhausted }) .off C2.X (fun _ h => h) (by show _ < _; simp [World.putObj]; exact hlt2)
          have hle := u3 (hle1.trans hA2.le) fun b hb => hA2.le.X b (.inl hb)
          refine ⟨_, run_endLoop hobj hst, ⟨hle, u1, ⟨hA2.hr.get, hA2.hr.born, ?_⟩, fun m hm => hA2.low m hm, fun i hi hne => ?_⟩, ⟨by simp, by simp, fun D hD => ?_, fun D hD => ?_⟩⟩
          · show C2.js.set _ _ = _
            rw [hA2.hr.js, hkk]
          · show (C2.js.set _ _)[i]? = _
            have hi' : i < C.lp.length := by rw [← g.lpn]; exact hi
            rw [List.getElem?_set_ne (by omega)]
            have e1 := hA2.js i (by show i < (C.js ++ _).length; simp; omega) (fun p hp => by
              rcases List.mem_cons.1 hp with rfl | hp
              · simp only; omega
              · exact hne p hp)
            rw [e1]
            show (C.js ++ _)[i]? = _
            rw [List.getElem?_append_left hi]
          · rw [List.mem_singleton.1 hD]
            exact hA2.le.X _ (.inr rfl)
          · rw [List.mem_singleton.1 hD]
            exact (World.putObj_heap_other (by omega)).trans hD2
        split at h
        · rename_i hjs
          simp only [Option.some.injEq, Prod.mk.injEq] at h
          obtain ⟨rfl, rfl⟩ := h
          have hobj := hA2.good.lp _ _ rec .on hl2 (by rw [hA2.hr.js, ← hkk]; exact hjs)
          obtain ⟨C3, h1, h2, h3⟩ := hend .ready none hobj (by simp)
          exact ⟨none, C3.w, h1, rfl, C3, [C.w.heap.size], rfl, h2, hT.mono h2.le, rfl, h3⟩
        · rename_i x' hjs
          simp only [Option.some.injEq, Prod.mk.injEq] at h
          obtain ⟨rfl, rfl⟩ := h
          have hobj := hA2.good.lp _ _ rec (.jump x') hl2 (by rw [hA2.hr.js, ← hkk]; exact hjs)
          obtain ⟨C3, h1, h2, h3⟩ := hend .done (some x'.code) hobj (by simp)
          refine ⟨some x'.code, C3.w, h1, ?_⟩
          have hpost : Post C lo ys a x' ⟨s.tm, { H' with js := H'.js.set s.H.js.length .off }⟩ (exOf x') { a with defers := [{ target := .collected C.w.heap.size, args := #[] }] ++ a.defers } C3.w :=
            ⟨rfl, C3, [C.w.heap.size], rfl, h2, hT.mono h2.le, rfl, h3⟩
          cases x' with
          | normal => exact wpIn_skip hpost
          | exit id => exact wpIn_exit hpost
          | ret => exact wpIn_ret hpost
        · cases h
    · cases h
  · cases h

theorem stepR_scope {P : Program} {b : Frame} {a : Act} {k : List Item} {cs : List Frame} {w : World} {c : Code} : step P (lone (b.atR a (.code (.scope c) :: k)) cs w) = .next (lone (b.atR a (.code c :: .inScope c :: k)) cs w) :=
  step_lone_go (by simp [stepG, stepG.exec, Frame.atR])
theorem stepR_inScope {P : Program} {b : Frame} {a : Act} {k : List Item} {cs : List Frame} {w : World} {c : Code} : step P (lone (b.atR a (.inScope c :: k)) cs w) = .next (lone (b.atR a k) cs w) :=
  step_lone_go (by simp [stepG, stepG.exec, Frame.atR])
theorem wpIn_scope_straight {F : Fence} {n : Nat} {P : Program} {Q : Exit → Act → World → Prop} {a : Act} {w : World} {c : Code} (h : c.wpIn F n P (Exit.noGoto Q) a w) : (Code.scope c).wpIn F n P Q a w := by
  intro b k cs hro hb hr
  have h0 : (lone (b.atR a (.code (.scope c) :: k)) cs w).fenced P F := fenced_calm hb hr rfl
  obtain ⟨e, a₁, w₁, hq, harr⟩ := h b (.inScope c :: k) cs hro hb hr
  cases e with
  | normal => exact ⟨.normal, a₁, w₁, hq, .head h0 stepR_scope (StepsIn.trans harr (.one (fenced_calm hb hr rfl) stepR_inScope))⟩
  | exit id =>
    have hx : exitTo id (.inScope c :: k) = exitTo id k := by simp [exitTo]
    exact ⟨.exit id, a₁, w₁, hq, fun k' hk => .head h0 stepR_scope (harr.1 k' (by rw [hx]; exact hk)),
      fun hr' hk => let ⟨k₁, h1, h2⟩ := harr.2 hr' (by rw [hx]; exact hk); ⟨k₁, h1, .head h0 stepR_scope h2⟩⟩
  | goto l => exact hq.elim
  | ret => exact ⟨_, a₁, w₁, hq, .of_steps (.one h0 stepR_scope) harr⟩
  | panic ch => exact ⟨_, a₁, w₁, hq, .of_steps (.one h0 stepR_scope) harr⟩
  | outgrown => exact ⟨_, a₁, w₁, hq, .of_steps (.one h0 stepR_scope) harr⟩

def LoopOK (E : Env) (go : Run) : Prop :=
  ∀ (rd : Bool) (ys : List (Nat × LRec)) (lo : Nat) (c : Code) (s : St) (x : AX) (s' : St), go rd ys lo (.loop c) s = some (x, s') →
    ∀ (C : Ctx) (a : Act) (F : Fence) (n : Nat), FenceOK rd F → Good C → HR C s.H → lo ≤ s.H.next → TR C s.tm a.tmps → YRel C ys → LoopTail F n E.P c (Post C lo ys a x s') a C.w

theorem loop_body (hgo : GoOK E go) (hlp : LoopOK E go) {rd : Bool} {ys : List (Nat × LRec)} {lo : Nat} {c : Code} {s s' : St} {x : AX} (h : execF E go rd ys lo (.loop c) s = some (x, s'))
    {C : Ctx} {a : Act} {F : Fence} {n : Nat} (hF : FenceOK rd F) (g : Good C) (hH : HR C s.H) (hlo : lo ≤ s.H.next) (hT : TR C s.tm a.tmps) (hY : YRel C ys) :
    c.wpIn F n E.P (Exit.then (LoopTail F n E.P c (Post C lo ys a x s')) (Post C lo ys a x s')) a C.w := by
  simp only [execF] at h
  split at h
  · cases h
  · rename_i s1 h1
    refine wpIn_mono (hgo _ _ _ _ _ _ _ h1 C a F n hF g hH hlo hT hY) ?_
    rintro e a1 w1 ⟨rfl, C1, ds, rfl, hA, hT1, hd, hm⟩
    have := hlp _ _ _ _ _ _ _ h C1 a1 F n hF hA.good hA.hr (hA.lo hH hlo) hT1 (hY.mono hA.le)
    show LoopTail F n E.P c (Post C lo ys a x s') a1 C1.w
    intro b k cs hro hb hr
    obtain ⟨e, a', w', hq, harr⟩ := this b k cs hro hb hr
    exact ⟨e, a', w', Post.trans g hA hd hm hq, harr⟩
  · rename_i x1 s1 hne h1
    simp only [Option.some.injEq, Prod.mk.injEq] at h
    obtain ⟨rfl, rfl⟩ := h
    refine wpIn_mono (hgo _ _ _ _ _ _ _ h1 C a F n hF g hH hlo hT hY) ?_
    rintro e a1 w1 ⟨rfl, hP⟩
    cases x1 with
    | normal => exact (hne rfl).elim
    | exit id => exact ⟨rfl, hP⟩
    | ret => exact ⟨rfl, hP⟩

theorem execF_ok (hE : ProgOK E) (hgo : GoOK E go) (hlp : LoopOK E go) : GoOK E (execF E go) := by
  intro rd ys lo c s x s' h C a F n hF g hH hlo hT hY
  have stay : ∀ y : AX, Post C lo ys a y s (exOf y) a C.w := fun y => ⟨rfl, C, [], rfl, .refl g hH, hT, rfl, .nil _ _⟩
  cases c with
  | skip =>
    simp only [execF, Option.some.injEq, Prod.mk.injEq] at h
    obtain ⟨rfl, rfl⟩ := h
    exact wpIn_skip (stay .normal)
  | label l =>
    simp only [execF, Option.some.injEq, Prod.mk.injEq] at h
    obtain ⟨rfl, rfl⟩ := h
    exact wpIn_label (stay .normal)
  | exit id =>
    simp only [execF, Option.some.injEq, Prod.mk.injEq] at h
    obtain ⟨rfl, rfl⟩ := h
    exact wpIn_exit (stay (.exit id))
  | ret =>
    simp only [execF, Option.some.injEq, Prod.mk.injEq] at h
    obtain ⟨rfl, rfl⟩ := h
    exact wpIn_ret (stay .ret)
  | goto l => simp [execF] at h
  | refuse w => simp [execF] at h
  | scope c =>
    simp only [execF] at h
    refine wpIn_scope_straight (wpIn_mono (hgo _ _ _ _ _ _ _ h C a F n hF g hH hlo hT hY) ?_)
    rintro e a1 w1 ⟨rfl, hP⟩
    cases x with
    | normal => exact ⟨rfl, hP⟩
    | exit id => exact ⟨rfl, hP⟩
    | ret => exact ⟨rfl, hP⟩
  | region id ops draw =>
    simp only [execF] at h
    split at h
    · cases h
    · rename_i s1 trs hr
      cases draw with
      | true =>
        simp only [if_true] at h
        split at h
        · rename_i hok
          simp only [Option.some.injEq, Prod.mk.injEq] at h
          obtain ⟨rfl, rfl⟩ := h
          exact region_drawn hE hgo hr hok hF g hH hlo hT hY id
        · cases h
      | false =>
        simp only [Bool.false_eq_true, if_false, Option.some.injEq, Prod.mk.injEq] at h
        obtain ⟨rfl, rfl⟩ := h
        exact region_inOrder hE hgo hr hF g hH hlo hT hY id
  | seq c1 c2 =>
    simp only [execF] at h
    split at h
    · cases h
    · rename_i s1 h1
      refine wpIn_seq (wpIn_mono (hgo _ _ _ _ _ _ _ h1 C a F n hF g hH hlo hT hY) ?_)
      rintro e a1 w1 ⟨rfl, C1, ds, rfl, hA, hT1, hd, hm⟩
      exact wpIn_mono (hgo _ _ _ _ _ _ _ h C1 a1 F n hF hA.good hA.hr (hA.lo hH hlo) hT1 (hY.mono hA.le)) fun e a2 w2 hq => Post.trans g hA hd hm hq
    · rename_i x1 s1 hne h1
      simp only [Option.some.injEq, Prod.mk.injEq] at h
      obtain ⟨rfl, rfl⟩ := h
      refine wpIn_seq (wpIn_mono (hgo _ _ _ _ _ _ _ h1 C a F n hF g hH hlo hT hY) ?_)
      rintro e a1 w1 ⟨rfl, hP⟩
      cases x1 with
      | normal => exact (hne rfl).elim
      | exit id => exact ⟨rfl, hP⟩
      | ret => exact ⟨rfl, hP⟩
  | cond c c1 c2 =>
    simp only [execF] at h
    split at h
    · rename_i hc
      have hv := (hc ▸ aev_rel (C := C) (tm := s.tm) (a := a) c fun t _ => hT.2 t).v_inv.1
      exact wpIn_cond_true hv (hgo _ _ _ _ _ _ _ h C a F n hF g hH hlo hT hY)
    · rename_i hc
      have hv := (hc ▸ aev_rel (C := C) (tm := s.tm) (a := a) c fun t _ => hT.2 t).v_inv.1
      exact wpIn_cond_false hv (hgo _ _ _ _ _ _ _ h C a F n hF g hH hlo hT hY)
    · cases h
  | block id c =>
    simp only [execF] at h
    split at h
    · rename_i id' s1 h1
      refine wpIn_block (wpIn_mono (hgo _ _ _ _ _ _ _ h1 C a F n hF g hH hlo hT hY) ?_)
      rintro e a1 w1 ⟨rfl, hP⟩
      simp only [exOf, Exit.inBlock]
      split at h
      · rename_i hid
        simp only [Option.some.injEq, Prod.mk.injEq] at h
        obtain ⟨rfl, rfl⟩ := h
        rw [if_pos hid]
        exact ⟨rfl, hP⟩
      · rename_i hid
        simp only [Option.some.injEq, Prod.mk.injEq] at h
        obtain ⟨rfl, rfl⟩ := h
        rw [if_neg hid]
        exact ⟨rfl, hP⟩
    · rename_i hne
      refine wpIn_block (wpIn_mono (hgo _ _ _ _ _ _ _ h C a F n hF g hH hlo hT hY) ?_)
      rintro e a1 w1 ⟨rfl, hP⟩
      cases x with
      | normal => exact ⟨rfl, hP⟩
      | exit id' => exact (hne _ _ h).elim
      | ret => exact ⟨rfl, hP⟩
  | loop c => exact wpIn_loop_tail (loop_body hgo hlp h hF g hH hlo hT hY)
  | rangeFunc f params assign body =>
    cases rd with
    | true => simp [execF] at h
    | false => exact range_goes hE hgo h hF g hH hlo hT hY

theorem exec_ok (hE : ProgOK E) (n : Nat) : GoOK E (exec E n) ∧ LoopOK E (exec E n) := by
  induction n with
  | zero => exact ⟨fun rd ys lo c s x s' h => by simp [exec] at h, fun rd ys lo c s x s' h => by simp [exec] at h⟩
  | succ n ih =>
    exact ⟨execF_ok hE ih.1 ih.2, fun rd ys lo c s x s' h C a F m hF g hH hlo hT hY => .intro (loop_body ih.1 ih.2 h hF g hH hlo hT hY)⟩
end

/-- **THE MACHINE IS SOUND**: a call of a function, on an empty heap, on values that lie in the world as they are told. -/
theorem calls_of_acall {E : Env} (hE : ProgOK E) {n lo : Nat} {f : FuncId} {args : List AV} {r : AV} {H' : AHeap} (h : acall E [] n 0 f args .empty = some (r, H')) {w : World} {vs : Array Value}
    (ha : vs.size = args.length ∧ ∀ i, i < args.length → FR w (fun _ => False) (args.getD i .dead) (vs.getD i undef)) :
    Calls E.P f vs w fun e w' => ∃ v, e = .returned v ∧ w'.os = w.os ∧ w'.tape = w.tape ∧ w'.output = w.output ∧ w.heap.size ≤ w'.heap.size ∧ (∀ b, b < w.heap.size → w'.heap[b]? = w.heap[b]?) ∧
      ∃ C : Ctx, C.w = w' ∧ Good C ∧ HR C H' ∧ VR C r v := by
  let C0 : Ctx := ⟨w, fun _ => (0, 0, 0), fun _ => none, fun _ => False, fun _ => False, [], []⟩
  have hav : ∀ b, ¬ C0.av b := by
    rintro b ((h | ⟨k, r, h⟩) | ⟨n, blk, h, _⟩)
    · exact h
    · simp [C0] at h
    · simp [C0] at h
  have g0 : Good C0 := ⟨fun n b h => by simp [C0] at h, fun n m b c h => by simp [C0] at h, fun n b h => by simp [C0] at h, fun n b h => by simp [C0] at h, fun b h => h.elim, rfl, fun k l r s h => by simp [C0] at h, fun k l r h => by simp [C0] at h, fun k m l r q h => by simp [C0] at h⟩
  have h0 : HR C0 .empty := ⟨fun n => rfl, fun n => ⟨fun h => h.elim, fun h => by simp [AHeap.empty] at h⟩, rfl⟩
  have hA : ARel C0 args vs := ⟨ha.1, fun i hi => .fr ((ha.2 i hi).weak fun b hb => hav b hb)⟩
  obtain ⟨k, _⟩ := call_ok (exec_ok hE n).1 h g0 h0 (Nat.zero_le _) hA (YRel.nil _) Fence.wide ⟨fun _ => trivial, rfl, fun _ => rfl, rfl⟩ 0
  refine callsIn_wide.1 (k.mono ?_)
  rintro e w' ⟨v, rfl, C', rfl, hAf, _, hv⟩
  exact ⟨v, rfl, hAf.le.os, hAf.le.tape, hAf.le.output, hAf.le.size, fun b hb => (hAf.le.keep b hb (hav b)).1, C', rfl, hAf.good, hAf.hr, hv⟩

end Go.Am
