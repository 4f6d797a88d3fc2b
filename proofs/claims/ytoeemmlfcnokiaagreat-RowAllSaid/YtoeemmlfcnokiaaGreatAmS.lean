/- Symbolic runs: one operation at a time. -/
import Derived.Test.YtoeemmlfcnokiaaGreatAmW2
set_option linter.all false
set_option linter.deprecated false
namespace Go.Am

/-- One operation that does not call, laid out without the forcing. -/
def effL (lo : Nat) (H : AHeap) (rd : List Nat) : Eff → Option (AV × AHeap × Tr)
  | .none x => some (x, H, ⟨bitsOf rd, 0, 0⟩)
  | .set n b x => if lo ≤ n ∧ rd.any (Nat.beq n) = true then some (x, H.set n b, ⟨bitsOf rd, 2 ^ n, 0⟩) else none
  | .new b x => some (x H.next, H.push b, ⟨bitsOf rd, 2 ^ H.next, 0⟩)
def primL (lo : Nat) (H : AHeap) : Plan → Option (AV × AHeap × Tr)
  | .prim rd k => (getAll H rd).bind fun bs => (k bs).bind (effL lo H rd)
  | _ => none
theorem primL_ok {E : Env} {cf : CallF} {lo : Nat} {H : AHeap} {p : Plan} {x : AV} {H' : AHeap} {tr : Tr} (h : primL lo H p = some (x, H', tr)) : runPlan E cf lo H p = some (x, H', tr) := by
  cases p with
  | prim rd k =>
    simp only [primL] at h
    simp only [runPlan]
    cases hb : getAll H rd with
    | none => rw [hb] at h; cases h
    | some bs =>
      rw [hb] at h
      simp only [Option.bind_some] at h ⊢
      cases hk : k bs with
      | none => rw [hk] at h; cases h
      | some e =>
        rw [hk] at h
        simp only [Option.bind_some] at h ⊢
        cases e with
        | none y => simpa [effL, fA_eq, fNat_eq] using h
        | set n b y =>
          simp only [effL] at h
          split at h
          · rename_i hc
            have hle : (Nat.ble lo n && rd.any (Nat.beq n)) = true := by simp only [Bool.and_eq_true, Nat.ble_eq]; exact hc
            simp only [hle, if_true, fA_eq, fBlk_eq, fPut_eq, fNat_eq]
            exact h
          · cases h
        | new b y =>
          simp only [effL] at h
          simp only [fA_eq, fBlk_eq, fNat_eq]
          exact h
  | _ => cases h

theorem putS_to {R : Type} {tm : Slots} {dst : Option Tmp} {x : AV} {tm1 : Slots} (h : putS tm dst x some = some tm1) (k : Slots → Option R) : putS tm dst x k = k tm1 := putS_bind tm dst x k h

def TrLe (a b : Tr) : Prop := a = b ∨ a = ⟨0, 0, 0⟩
inductive TrsLe : List Tr → List Tr → Prop
  | nil : TrsLe [] []
  | cons {a b : Tr} {as bs : List Tr} : TrLe a b → TrsLe as bs → TrsLe (a :: as) (b :: bs)
theorem okPairs_le {xs ys : List Tr} (h : TrsLe xs ys) : ∀ (as : List Nat) (i : Nat) (pre pre' : List (Nat × Tr)), (∀ p ∈ pre', p ∈ pre) → okPairs as ys i pre = true → okPairs as xs i pre' = true := by
  induction h with
  | nil => intro as i pre pre' _ h; simp [okPairs]
  | @cons a b xs ys hab _ ih =>
    intro as i pre pre' hp h
    cases as with
    | nil => simp [okPairs] at h
    | cons s as =>
      simp only [okPairs, fNat_eq] at h ⊢
      rcases hab with rfl | rfl
      · split at h
        · rename_i hz; rw [if_pos hz]; exact ih _ _ _ _ hp h
        · rename_i hz; rw [if_neg hz]
          split at h
          · rename_i ha
            have : (pre'.all fun p => bit s p.1 || !clash p.2 a) = true := List.all_eq_true.2 fun p hpm => List.all_eq_true.1 ha p (hp p hpm)
            rw [this]
            refine ih _ _ _ _ (fun p hpm => ?_) h
            rcases List.mem_cons.1 hpm with rfl | hpm
            · exact List.mem_cons_self
            · exact List.mem_cons_of_mem _ (hp p hpm)
          · cases h
      · rw [if_pos (by rfl)]
        split at h
        · exact ih _ _ _ _ hp h
        · split at h
          · exact ih _ _ _ _ (fun p hpm => List.mem_cons_of_mem _ (hp p hpm)) h
          · cases h

/-- A value under a guard. -/
def gv (b : Bool) (x : AV) : AV := bif b then x else .tup []
theorem gv_true (x : AV) : gv true x = x := rfl
theorem gv_false (x : AV) : gv false x = .tup [] := rfl

/-- The operations of a region, from one on, run: the state, and what the traces are at most. -/
structure RO (E : Env) (ys : List (Nat × LRec)) (lo : Nat) (ops rest : List Oper) (s s1 : St) (T : List Tr) : Prop where
  ex : ∃ n trs, runOps E (callF E (exec E n) ys lo) lo ops rest s = some (s1, trs) ∧ TrsLe trs T

/-- What a call does: on the heap H it gives x and leaves H'. -/
def CallR (E : Env) (ys : List (Nat × LRec)) (lo : Nat) (f : FuncId) (args : List AV) (H : AHeap) (x : AV) (H' : AHeap) (tr : Tr) : Prop :=
  ∃ n, runPlan E (callF E (exec E n) ys lo) lo H (.call f args) = some (x, H', tr)

section
variable {E : Env} {ys : List (Nat × LRec)} {lo : Nat} {s s1 : St} {ops rest : List Oper} {o : Oper} {T : List Tr} {tm1 : Slots} {x : AV} {H' : AHeap} {tr : Tr}

theorem RO.nil : RO E ys lo ops [] s s [] := ⟨0, [], rfl, .nil⟩
theorem RO.step {s0 : St} {tr' : Tr} {m : Nat} (h : stepOp E (callF E (exec E m) ys lo) lo ops o s = some (s0, tr')) (ht : TrLe tr' tr) (hk : RO E ys lo ops rest s0 s1 T) : RO E ys lo ops (o :: rest) s s1 (tr :: T) := by
  obtain ⟨n, trs, h1, h2⟩ := hk.ex
  refine ⟨max m n, tr' :: trs, ?_, .cons ht h2⟩
  simp only [runOps, stepOp_mono (exec_mono (Nat.le_max_left m n)) h, runOps_mono (exec_mono (Nat.le_max_right m n)) h1]
/-- No call, no guard. -/
theorem RO.op (hg : o.guard = none) (hp : primL lo s.H (plan E o (aev s.tm)) = some (x, H', tr)) (hs : putS s.tm o.dst x some = some tm1) (hk : RO E ys lo ops rest ⟨tm1, H'⟩ s1 T) : RO E ys lo ops (o :: rest) s s1 (tr :: T) := by
  refine RO.step (m := 0) (tr' := tr) (s0 := ⟨tm1, H'⟩) ?_ (.inl rfl) hk
  have hw : wantedA o ops s.tm = some true := by simp [wantedA, hg]
  simp only [stepOp, hw, primL_ok hp, putS_to hs]
/-- No call, a guard: the value under it. -/
theorem RO.opg {b : Bool} (hw : wantedA o ops s.tm = some b) (hp : b = true → primL lo s.H (plan E o (aev s.tm)) = some (x, s.H, tr)) (hs : putS s.tm o.dst (gv b x) some = some tm1) (hk : RO E ys lo ops rest ⟨tm1, s.H⟩ s1 T) : RO E ys lo ops (o :: rest) s s1 (tr :: T) := by
  cases b with
  | true => exact RO.step (m := 0) (tr' := tr) (s0 := ⟨tm1, s.H⟩) (by simp only [stepOp, hw, primL_ok (hp rfl)]; rw [gv_true] at hs; simp only [putS_to hs]) (.inl rfl) hk
  | false => exact RO.step (m := 0) (tr' := ⟨0, 0, 0⟩) (s0 := ⟨tm1, s.H⟩) (by simp only [stepOp, hw]; rw [gv_false] at hs; simp only [putS_to hs]) (.inr rfl) hk
/-- A guard that says no. -/
theorem RO.no (hw : wantedA o ops s.tm = some false) (hs : putS s.tm o.dst (.tup []) some = some tm1) (hk : RO E ys lo ops rest ⟨tm1, s.H⟩ s1 T) : RO E ys lo ops (o :: rest) s s1 (⟨0, 0, 0⟩ :: T) :=
  RO.step (m := 0) (tr' := ⟨0, 0, 0⟩) (s0 := ⟨tm1, s.H⟩) (by simp only [stepOp, hw, putS_to hs]) (.inl rfl) hk
/-- A guard that says yes. -/
theorem RO.yes (hw : wantedA o ops s.tm = some true) (hp : primL lo s.H (plan E o (aev s.tm)) = some (x, H', tr)) (hs : putS s.tm o.dst x some = some tm1) (hk : RO E ys lo ops rest ⟨tm1, H'⟩ s1 T) : RO E ys lo ops (o :: rest) s s1 (tr :: T) := by
  refine RO.step (m := 0) (tr' := tr) (s0 := ⟨tm1, H'⟩) ?_ (.inl rfl) hk
  simp only [stepOp, hw, primL_ok hp, putS_to hs]
/-- A call. -/
theorem RO.call {f : FuncId} {args : List AV} (hw : wantedA o ops s.tm = some true) (hp : plan E o (aev s.tm) = .call f args) (hc : CallR E ys lo f args s.H x H' tr) (hs : putS s.tm o.dst x some = some tm1) (hk : RO E ys lo ops rest ⟨tm1, H'⟩ s1 T) : RO E ys lo ops (o :: rest) s s1 (tr :: T) := by
  obtain ⟨n, hn⟩ := hc
  refine RO.step (m := n) (tr' := tr) (s0 := ⟨tm1, H'⟩) ?_ (.inl rfl) hk
  simp only [stepOp, hw, hp, hn, putS_to hs]
/-- A call under a guard that leaves the heap. -/
theorem RO.callg {f : FuncId} {args : List AV} {b : Bool} (hw : wantedA o ops s.tm = some b) (hp : b = true → plan E o (aev s.tm) = .call f args) (hc : b = true → CallR E ys lo f args s.H x s.H tr) (hs : putS s.tm o.dst (gv b x) some = some tm1) (hk : RO E ys lo ops rest ⟨tm1, s.H⟩ s1 T) : RO E ys lo ops (o :: rest) s s1 (tr :: T) := by
  cases b with
  | true => rw [gv_true] at hs; exact RO.call hw (hp rfl) (hc rfl) hs hk
  | false =>
    rw [gv_false] at hs
    exact RO.step (m := 0) (tr' := ⟨0, 0, 0⟩) (s0 := ⟨tm1, s.H⟩) (by simp only [stepOp, hw, putS_to hs]) (.inr rfl) hk

end

/-! Code. -/
structure V (E : Env) (rd : Bool) (ys : List (Nat × LRec)) (lo : Nat) (c : Code) (s : St) (Q : AX → St → Prop) : Prop where
  w : W E rd ys lo c s Q
structure SeqQ (E : Env) (rd : Bool) (ys : List (Nat × LRec)) (lo : Nat) (b : Code) (Q : AX → St → Prop) (x : AX) (s : St) : Prop where
  q : match x with
  | .normal => W E rd ys lo b s Q
  | x => Q x s
structure BlockQ (id : Nat) (Q : AX → St → Prop) (x : AX) (s : St) : Prop where
  q : match x with
  | .exit id' => if id' = id then Q .normal s else Q (.exit id') s
  | x => Q x s
structure LoopQ (I : Nat → St → Prop) (m : Nat) (Q : AX → St → Prop) (x : AX) (s : St) : Prop where
  q : match x with
  | .normal => ∃ m', m' < m ∧ I m' s
  | x => Q x s
structure FnQ (E : Env) (fn : Func) (K : AV → AHeap → Prop) (x : AX) (s : St) : Prop where
  q : match x with
  | .exit _ => False
  | _ => ∃ r, resultsA E.P fn s = some r ∧ K r s.H
section
variable {E : Env} {rd : Bool} {ys : List (Nat × LRec)} {lo : Nat} {s s1 : St} {Q : AX → St → Prop} {T : List Tr} {l : List Oper}
theorem SeqQ.normal {b : Code} (h : V E rd ys lo b s Q) : SeqQ E rd ys lo b Q .normal s := ⟨h.w⟩
theorem SeqQ.ret {b : Code} (h : Q .ret s) : SeqQ E rd ys lo b Q .ret s := ⟨h⟩
theorem SeqQ.exit {b : Code} {id : Nat} (h : Q (.exit id) s) : SeqQ E rd ys lo b Q (.exit id) s := ⟨h⟩
theorem BlockQ.normal {id : Nat} (h : Q .normal s) : BlockQ id Q .normal s := ⟨h⟩
theorem BlockQ.ret {id : Nat} (h : Q .ret s) : BlockQ id Q .ret s := ⟨h⟩
theorem BlockQ.here {id : Nat} (h : Q .normal s) : BlockQ id Q (.exit id) s := ⟨by simpa using h⟩
theorem BlockQ.there {id id' : Nat} (hn : id' ≠ id) (h : Q (.exit id') s) : BlockQ id Q (.exit id') s := ⟨by simpa [hn] using h⟩
theorem LoopQ.again {I : Nat → St → Prop} {m : Nat} (m' : Nat) (hm : m' < m) (h : I m' s) : LoopQ I m Q .normal s := ⟨m', hm, h⟩
theorem LoopQ.ret {I : Nat → St → Prop} {m : Nat} (h : Q .ret s) : LoopQ I m Q .ret s := ⟨h⟩
theorem LoopQ.exit {I : Nat → St → Prop} {m id : Nat} (h : Q (.exit id) s) : LoopQ I m Q (.exit id) s := ⟨h⟩
theorem FnQ.ret {fn : Func} {K : AV → AHeap → Prop} {r r' : AV} (hr : resultsA E.P fn s = some r') (he : r' = r) (h : K r s.H) : FnQ E fn K .ret s := ⟨r, by rw [hr, he], h⟩
theorem FnQ.normal {fn : Func} {K : AV → AHeap → Prop} {r r' : AV} (hr : resultsA E.P fn s = some r') (he : r' = r) (h : K r s.H) : FnQ E fn K .normal s := ⟨r, by rw [hr, he], h⟩
theorem V.mono {c : Code} {Q' : AX → St → Prop} (h : V E rd ys lo c s Q) (hq : ∀ x s, Q x s → Q' x s) : V E rd ys lo c s Q' := ⟨h.w.mono hq⟩
theorem V.skip (h : Q .normal s) : V E rd ys lo .skip s Q := ⟨W.skip h⟩
theorem V.label {n : Nat} (h : Q .normal s) : V E rd ys lo (.label n) s Q := ⟨W.label h⟩
theorem V.exit {id : Nat} (h : Q (.exit id) s) : V E rd ys lo (.exit id) s Q := ⟨W.exit h⟩
theorem V.ret (h : Q .ret s) : V E rd ys lo .ret s Q := ⟨W.ret h⟩
theorem V.sq {a b : Code} (h : V E rd ys lo a s (SeqQ E rd ys lo b Q)) : V E rd ys lo (.seq a b) s Q := ⟨W.seq (h.w.mono fun x s h => h.q)⟩
theorem V.bl {id : Nat} {c : Code} (h : V E rd ys lo c s (BlockQ id Q)) : V E rd ys lo (.block id c) s Q := ⟨W.block (h.w.mono fun x s h => h.q)⟩
theorem V.sc {c : Code} (h : V E rd ys lo c s Q) : V E rd ys lo (.scope c) s Q := ⟨W.scope h.w⟩
theorem V.lp {c : Code} (I : Nat → St → Prop) (m : Nat) (h0 : I m s) (hr : ∀ m s, I m s → V E rd ys lo c s (LoopQ I m Q)) : V E rd ys lo (.loop c) s Q := ⟨W.loop I m h0 fun m s h => (hr m s h).w.mono fun x s h => h.q⟩
/-- A loop, one round laid out. -/
theorem V.un {c : Code} (h : V E rd ys lo c s (SeqQ E rd ys lo (.loop c) Q)) : V E rd ys lo (.loop c) s Q := by
  obtain ⟨n, x, s1, h1, h2⟩ := h.w
  have h3 := h2.q
  cases x with
  | normal =>
    obtain ⟨m, y, s2, h4, h5⟩ := h3
    refine ⟨max n m + 1, y, s2, ?_, h5⟩
    simp only [exec, execF, exec_mono (Nat.le_max_left n m) _ _ _ _ _ _ h1]
    exact exec_mono (Nat.le_max_right n m) _ _ _ _ _ _ h4
  | ret => exact ⟨n + 1, .ret, s1, by simp only [exec, execF, h1], h3⟩
  | exit id => exact ⟨n + 1, .exit id, s1, by simp only [exec, execF, h1], h3⟩
theorem V.cond {c : Operand} {a b : Code} {t : Bool} (hc : aev s.tm c = .v (.bool t)) (ht : t = true → V E rd ys lo a s Q) (hf : t = false → V E rd ys lo b s Q) : V E rd ys lo (.cond c a b) s Q := ⟨W.cond hc (fun h => (ht h).w) fun h => (hf h).w⟩
theorem V.reg {id : Nat} (h : RO E ys lo l l s s1 T) (hq : Q .normal s1) : V E rd ys lo (.region id (List.toArray l) false) s Q := by
  obtain ⟨n, trs, h1, _⟩ := h.ex
  exact ⟨W.region ⟨n, s1, trs, h1, hq⟩⟩
theorem V.regd {id : Nat} (h : RO E ys lo l l s s1 T) (hb : (okBack l 0 && okPairs (aheads l [] 0) (slotTrs l l) 0 []) = true) (ht : okPairs (aheads l [] 0) T 0 [] = true) (hq : Q .normal s1) : V E rd ys lo (.region id (List.toArray l) true) s Q := by
  obtain ⟨n, trs, h1, h2⟩ := h.ex
  refine ⟨W.region_draw ⟨n, s1, trs, h1, ?_, hq⟩⟩
  show (okBack l 0 && okPairs (aheads l [] 0) (slotTrs l l) 0 [] && okPairs (aheads l [] 0) trs 0 []) = true
  rw [hb, okPairs_le h2 _ _ _ _ (fun p hp => hp) ht]; rfl
theorem WC.enter {f : FuncId} {fn : Func} {body : Code} {args : List AV} {H : AHeap} {K : AV → AHeap → Prop} {tm : Slots} (hf : E.P.funcs[f]? = some fn) (hb : fn.body = some body) (hl : args.length ≤ fn.ntmps) (ht : Slots.of fn.ntmps args = tm) (h : V E false ys lo body ⟨tm, H⟩ (FnQ E fn K)) : WC E ys lo f args H K := by
  subst ht
  exact WC.intro hf hb hl (h.w.mono fun x s hx => by cases x <;> exact hx.q)
end

/-! Calls. -/
theorem idxN_nil (n i : Nat) : idxN [] n i = none := rfl
theorem renC_base (H : AHeap) (lo b b' : Nat) (d : Nat) (x : AV) : renC H lo b [] d x = renC H lo b' [] d x := by cases x <;> simp [renC, idxN_nil]
theorem renV_base (H : AHeap) (lo b b' : Nat) (d : Nat) (x : AV) : renV H lo b [] d x = renV H lo b' [] d x := by
  have e : ren1 H lo b [] d = ren1 H lo b' [] d := by
    funext x
    have e0 : renC H lo b [] d = renC H lo b' [] d := funext (renC_base H lo b b' d)
    cases x <;> simp only [ren1, e0]
  cases x <;> simp only [renV, e]
/-- What a pure call hands back. -/
def frzR (H : AHeap) (lo : Nat) (x : AV) : AV := renV H lo 0 [] frzDepth x

/-- A pure call on values without names. -/
def Pure (E : Env) (f : FuncId) (args : List AV) (x : AV) : Prop := ∀ ys lo H, CallR E ys lo f args H x H ⟨0, 0, 0⟩
theorem WC.pure {E : Env} {f : FuncId} {args : List AV} {K : AV → Prop} (hpol : E.pol f = .pure) (hnf : args.all nf = true) (hc : WC E [] 0 f args .empty fun r H => K (frzR H 0 r)) : ∃ x, K x ∧ Pure E f args x := by
  obtain ⟨n, r, H', h1, h2⟩ := hc
  refine ⟨_, h2, fun ys lo H => ⟨n, ?_⟩⟩
  have h1' : (callF E (exec E n) ys lo).call false 0 f args .empty = some (r, H') := h1
  have hz : newBits H.next (H.next - H.next) = 0 := by simp [newBits]
  simp only [runPlan, hpol, hnf, if_true, h1', hand_pure, hz, fNat_eq]
  rw [renV_base _ _ _ 0]; rfl
theorem WC.pure' {E : Env} {f : FuncId} {args : List AV} {x : AV} (hpol : E.pol f = .pure) (hnf : args.all nf = true) (hc : WC E [] 0 f args .empty fun r H => frzR H 0 r = x) : Pure E f args x := by
  obtain ⟨y, rfl, h⟩ := WC.pure (K := fun y => y = x) hpol hnf hc
  exact h
/-- A pure call that reads the heap H. -/
theorem WC.pureH {E : Env} {ys : List (Nat × LRec)} {lo : Nat} {f : FuncId} {args : List AV} {H : AHeap} {K : AV → Prop} (hpol : E.pol f = .pure) (hnf : args.all nf = false) (hc : WC E [] H.next f args H fun r H' => K (frzR H' H.next r)) : ∃ x, K x ∧ CallR E ys lo f args H x H ⟨0, 0, 1⟩ := by
  obtain ⟨n, r, H', h1, h2⟩ := hc
  refine ⟨_, h2, n, ?_⟩
  have h1' : (callF E (exec E n) ys lo).call false H.next f args H = some (r, H') := h1
  have hz : newBits H.next (H.next - H.next) = 0 := by simp [newBits]
  simp only [runPlan, hpol, hnf, Bool.false_eq_true, if_false, h1', hand_pure, hz, fNat_eq]
  rw [renV_base _ _ _ 0]; rfl
/-- A call on the shared heap. -/
theorem WC.eff {E : Env} {ys : List (Nat × LRec)} {lo : Nat} {f : FuncId} {args : List AV} {H : AHeap} {K : AV → AHeap → Prop} (hpol : E.pol f = .eff) (hc : WC E ys lo f args H K) : ∃ x H', K x H' ∧ CallR E ys lo f args H x H' ⟨0, 0, 2⟩ := by
  obtain ⟨n, r, H', h1, h2⟩ := hc
  refine ⟨r, H', h2, n, ?_⟩
  have h1' : (callF E (exec E n) ys lo).call true lo f args H = some (r, H') := h1
  simp only [runPlan, hpol, h1']
/-- A call that hands blocks of its own over: x, bs, by the caller's next name. -/
def Own (E : Env) (f : FuncId) (args : List AV) (x : Nat → AV) (bs : Nat → List Blk) : Prop := ∀ ys lo H, CallR E ys lo f args H (x H.next) (pushAll H (bs H.next)) ⟨0, newBits H.next (bs H.next).length, 0⟩
def Hands (H : AHeap) (lo : Nat) (r : AV) (x : Nat → AV) (bs : Nat → List Blk) : Prop :=
  ∃ T, ownN H lo r = T ∧ nodupN T = true ∧ T.all (Nat.ble lo) = true ∧ ∀ b, blksA H lo b T frzDepth T = some (bs b) ∧ renV H lo b T frzDepth r = x b
theorem hand_own {H : AHeap} {lo : Nat} {r : AV} {x : Nat → AV} {bs : Nat → List Blk} (h : Hands H lo r x bs) (G : AHeap) : hand H lo true G r = some (x G.next, pushAll G (bs G.next)) := by
  obtain ⟨T, rfl, h2, h3, h4⟩ := h
  simp only [hand, if_true, h2, h3, Bool.and_self, blksS_eq, (h4 G.next).1, Option.bind_some, renVS_eq, pushS_eq, (h4 G.next).2]
theorem WC.own {E : Env} {f : FuncId} {args : List AV} {K : (Nat → AV) → (Nat → List Blk) → Prop} (hpol : E.pol f = .own) (hnf : args.all nf = true) (hc : WC E [] 0 f args .empty fun r H => ∃ x bs, Hands H 0 r x bs ∧ K x bs) : ∃ x bs, K x bs ∧ Own E f args x bs := by
  obtain ⟨n, r, H', h1, x, bs, h2, h3⟩ := hc
  refine ⟨x, bs, h3, fun ys lo H => ⟨n, ?_⟩⟩
  have h1' : (callF E (exec E n) ys lo).call false 0 f args .empty = some (r, H') := h1
  have e : H.next + (bs H.next).length - H.next = (bs H.next).length := by omega
  simp only [runPlan, hpol, hnf, if_true, h1', hand_own h2, pushAll_next, e, fNat_eq]
theorem WC.ownH {E : Env} {ys : List (Nat × LRec)} {lo : Nat} {f : FuncId} {args : List AV} {H : AHeap} {K : (Nat → AV) → (Nat → List Blk) → Prop} (hpol : E.pol f = .own) (hnf : args.all nf = false) (hc : WC E [] H.next f args H fun r H' => ∃ x bs, Hands H' H.next r x bs ∧ K x bs) :
    ∃ x bs, K x bs ∧ CallR E ys lo f args H (x H.next) (pushAll H (bs H.next)) ⟨0, newBits H.next (bs H.next).length, 1⟩ := by
  obtain ⟨n, r, H', h1, x, bs, h2, h3⟩ := hc
  refine ⟨x, bs, h3, n, ?_⟩
  have h1' : (callF E (exec E n) ys lo).call false H.next f args H = some (r, H') := h1
  have e : H.next + (bs H.next).length - H.next = (bs H.next).length := by omega
  simp only [runPlan, hpol, hnf, Bool.false_eq_true, if_false, h1', hand_own h2, pushAll_next, e, fNat_eq]
end Go.Am
