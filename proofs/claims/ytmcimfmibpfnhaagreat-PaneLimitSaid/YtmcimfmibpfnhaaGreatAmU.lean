/- Parts of the proof: AmS AmT AmU. -/
import Derived.Test.YtmcimfmibpfnhaaGreatAmW2
import Derived.IntWalk
set_option linter.all false
set_option linter.deprecated false

namespace Go.Am

/-- One operation that does not call, laid out without the forcing. -/
def effL (lo : Nat) (H : AHeap) (rd : List Nat) : Eff → Option (AV × AHeap × Tr)
  | .none x => some (x, H, ⟨bitsOf rd, 0, 0⟩)
  | .set n b x => if lo ≤ n ∧ rd.any (Nat.beq n) = true then some (x, H.set n b, ⟨bitsOf rd, 2 ^ n, 0⟩) else none
  | .new b x => some (x H.next, H.push b, ⟨bitsOf rd, 2 ^ H.next, 0⟩)
def primL (lo : Nat) (H : AHeap) : Plan → Option (AV × AHeap × Tr)
  | .prim rd k => (getAll H rd).bind fun bs => (k bs).bind (effL lo H rd)
  | _ => none
theorem primL_ok {E : Env} {cf : CallF} {lo : Nat} {H : AHeap} {p : Plan} {x : AV} {H' : AHeap} {tr : Tr} (h : primL lo H p = some (x, H', tr)) : runPlan E cf lo H p = some (x, H', tr) := by
  cases p with
  | prim rd k =>
    simp only [primL] at h
    simp only [runPlan]
    cases hb : getAll H rd with
    | none => rw [hb] at h; cases h
    | some bs =>
      rw [hb] at h
      simp only [Option.bind_some] at h ⊢
      cases hk : k bs with
      | none => rw [hk] at h; cases h
      | some e =>
        rw [hk] at h
        simp only [Option.bind_some] at h ⊢
        cases e with
        | none y => simpa [effL, fA_eq, fNat_eq] using h
        | set n b y =>
          simp only [effL] at h
          split at h
          · rename_i hc
            have hle : (Nat.ble lo n && rd.any (Nat.beq n)) = true := by simp only [Bool.and_eq_true, Nat.ble_eq]; exact hc
            simp only [hle, if_true, fA_eq, fBlk_eq, fPut_eq, fNat_eq]
            exact h
          · cases h
        | new b y =>
          simp only [effL] at h
          simp only [fA_eq, fBlk_eq, fNat_eq]
          exact h
  | _ => cases h

theorem putS_to {R : Type} {tm : Slots} {dst : Option Tmp} {x : AV} {tm1 : Slots} (h : putS tm dst x some = some tm1) (k : Slots → Option R) : putS tm dst x k = k tm1 := putS_bind tm dst x k h

def TrLe (a b : Tr) : Prop := a = b ∨ a = ⟨0, 0, 0⟩
inductive TrsLe : List Tr → List Tr → Prop
  | nil : TrsLe [] []
  | cons {a b : Tr} {as bs : List Tr} : TrLe a b → TrsLe as bs → TrsLe (a :: as) (b :: bs)
theorem okPairs_le {xs ys : List Tr} (h : TrsLe xs ys) : ∀ (as : List Nat) (i : Nat) (pre pre' : List (Nat × Tr)), (∀ p ∈ pre', p ∈ pre) → okPairs as ys i pre = true → okPairs as xs i pre' = true := by
  induction h with
  | nil => intro as i pre pre' _ h; simp [okPairs]
  | @cons a b xs ys hab _ ih =>
    intro as i pre pre' hp h
    cases as with
    | nil => simp [okPairs] at h
    | cons s as =>
      simp only [okPairs, fNat_eq] at h ⊢
      rcases hab with rfl | rfl
      · split at h
        · rename_i hz; rw [if_pos hz]; exact ih _ _ _ _ hp h
        · rename_i hz; rw [if_neg hz]
          split at h
          · rename_i ha
            have : (pre'.all fun p => bit s p.1 || !clash p.2 a) = true := List.all_eq_true.2 fun p hpm => List.all_eq_true.1 ha p (hp p hpm)
            rw [this]
            refine ih _ _ _ _ (fun p hpm => ?_) h
            rcases List.mem_cons.1 hpm with rfl | hpm
            · exact List.mem_cons_self
            · exact List.mem_cons_of_mem _ (hp p hpm)
          · cases h
      · rw [if_pos (by rfl)]
        split at h
        · exact ih _ _ _ _ hp h
        · split at h
          · exact ih _ _ _ _ (fun p hpm => List.mem_cons_of_mem _ (hp p hpm)) h
          · cases h

/-- A value under a guard. -/
def gv (b : Bool) (x : AV) : AV := bif b then x else .tup []
theorem gv_true (x : AV) : gv true x = x := rfl
theorem gv_false (x : AV) : gv false x = .tup [] := rfl

/-- The operations of a region, from one on, run: the state, and what the traces are at most. -/
structure RO (E : Env) (ys : List (Nat × LRec)) (lo : Nat) (ops rest : List Oper) (s s1 : St) (T : List Tr) : Prop where
  ex : ∃ n trs, runOps E (callF E (exec E n) ys lo) lo ops rest s = some (s1, trs) ∧ TrsLe trs T

/-- What a call does: on the heap H it gives x and leaves H'. -/
def CallR (E : Env) (ys : List (Nat × LRec)) (lo : Nat) (f : FuncId) (args : List AV) (H : AHeap) (x : AV) (H' : AHeap) (tr : Tr) : Prop :=
  ∃ n, runPlan E (callF E (exec E n) ys lo) lo H (.call f args) = some (x, H', tr)

section
variable {E : Env} {ys : List (Nat × LRec)} {lo : Nat} {s s1 : St} {ops rest : List Oper} {o : Oper} {T : List Tr} {tm1 : Slots} {x : AV} {H' : AHeap} {tr : Tr}

theorem RO.nil : RO E ys lo ops [] s s [] := ⟨0, [], rfl, .nil⟩
theorem RO.step {s0 : St} {tr' : Tr} {m : Nat} (h : stepOp E (callF E (exec E m) ys lo) lo ops o s = some (s0, tr')) (ht : TrLe tr' tr) (hk : RO E ys lo ops rest s0 s1 T) : RO E ys lo ops (o :: rest) s s1 (tr :: T) := by
  obtain ⟨n, trs, h1, h2⟩ := hk.ex
  refine ⟨max m n, tr' :: trs, ?_, .cons ht h2⟩
  simp only [runOps, stepOp_mono (exec_mono (Nat.le_max_left m n)) h, runOps_mono (exec_mono (Nat.le_max_right m n)) h1]
/-- No call, no guard. -/
theorem RO.op (hg : o.guard = none) (hp : primL lo s.H (plan E o (aev s.tm)) = some (x, H', tr)) (hs : putS s.tm o.dst x some = some tm1) (hk : RO E ys lo ops rest ⟨tm1, H'⟩ s1 T) : RO E ys lo ops (o :: rest) s s1 (tr :: T) := by
  refine RO.step (m := 0) (tr' := tr) (s0 := ⟨tm1, H'⟩) ?_ (.inl rfl) hk
  have hw : wantedA o ops s.tm = some true := by simp [wantedA, hg]
  simp only [stepOp, hw, primL_ok hp, putS_to hs]
/-- No call, a guard: the value under it. -/
theorem RO.opg {b : Bool} (hw : wantedA o ops s.tm = some b) (hp : b = true → primL lo s.H (plan E o (aev s.tm)) = some (x, s.H, tr)) (hs : putS s.tm o.dst (gv b x) some = some tm1) (hk : RO E ys lo ops rest ⟨tm1, s.H⟩ s1 T) : RO E ys lo ops (o :: rest) s s1 (tr :: T) := by
  cases b with
  | true => exact RO.step (m := 0) (tr' := tr) (s0 := ⟨tm1, s.H⟩) (by simp only [stepOp, hw, primL_ok (hp rfl)]; rw [gv_true] at hs; simp only [putS_to hs]) (.inl rfl) hk
  | false => exact RO.step (m := 0) (tr' := ⟨0, 0, 0⟩) (s0 := ⟨tm1, s.H⟩) (by simp only [stepOp, hw]; rw [gv_false] at hs; simp only [putS_to hs]) (.inr rfl) hk
/-- A guard that says no. -/
theorem RO.no (hw : wantedA o ops s.tm = some false) (hs : putS s.tm o.dst (.tup []) some = some tm1) (hk : RO E ys lo ops rest ⟨tm1, s.H⟩ s1 T) : RO E ys lo ops (o :: rest) s s1 (⟨0, 0, 0⟩ :: T) :=
  RO.step (m := 0) (tr' := ⟨0, 0, 0⟩) (s0 := ⟨tm1, s.H⟩) (by simp only [stepOp, hw, putS_to hs]) (.inl rfl) hk
/-- A call. -/
theorem RO.call {f : FuncId} {args : List AV} (hw : wantedA o ops s.tm = some true) (hp : plan E o (aev s.tm) = .call f args) (hc : CallR E ys lo f args s.H x H' tr) (hs : putS s.tm o.dst x some = some tm1) (hk : RO E ys lo ops rest ⟨tm1, H'⟩ s1 T) : RO E ys lo ops (o :: rest) s s1 (tr :: T) := by
  obtain ⟨n, hn⟩ := hc
  refine RO.step (m := n) (tr' := tr) (s0 := ⟨tm1, H'⟩) ?_ (.inl rfl) hk
  simp only [stepOp, hw, hp, hn, putS_to hs]
/-- A call under a guard that leaves the heap. -/
theorem RO.callg {f : FuncId} {args : List AV} {b : Bool} (hw : wantedA o ops s.tm = some b) (hp : b = true → plan E o (aev s.tm) = .call f args) (hc : b = true → CallR E ys lo f args s.H x s.H tr) (hs : putS s.tm o.dst (gv b x) some = some tm1) (hk : RO E ys lo ops rest ⟨tm1, s.H⟩ s1 T) : RO E ys lo ops (o :: rest) s s1 (tr :: T) := by
  cases b with
  | true => rw [gv_true] at hs; exact RO.call hw (hp rfl) (hc rfl) hs hk
  | false =>
    rw [gv_false] at hs
    exact RO.step (m := 0) (tr' := ⟨0, 0, 0⟩) (s0 := ⟨tm1, s.H⟩) (by simp only [stepOp, hw, putS_to hs]) (.inr rfl) hk

end

/-! Code. -/
structure V (E : Env) (rd : Bool) (ys : List (Nat × LRec)) (lo : Nat) (c : Code) (s : St) (Q : AX → St → Prop) : Prop where
  w : W E rd ys lo c s Q
structure SeqQ (E : Env) (rd : Bool) (ys : List (Nat × LRec)) (lo : Nat) (b : Code) (Q : AX → St → Prop) (x : AX) (s : St) : Prop where
  q : match x with
  | .normal => W E rd ys lo b s Q
  | x => Q x s
structure BlockQ (id : Nat) (Q : AX → St → Prop) (x : AX) (s : St) : Prop where
  q : match x with
  | .exit id' => if id' = id then Q .normal s else Q (.exit id') s
  | x => Q x s
structure LoopQ (I : Nat → St → Prop) (m : Nat) (Q : AX → St → Prop) (x : AX) (s : St) : Prop where
  q : match x with
  | .normal => ∃ m', m' < m ∧ I m' s
  | x => Q x s
structure FnQ (E : Env) (fn : Func) (K : AV → AHeap → Prop) (x : AX) (s : St) : Prop where
  q : match x with
  | .exit _ => False
  | _ => ∃ r, resultsA E.P fn s = some r ∧ K r s.H
section
variable {E : Env} {rd : Bool} {ys : List (Nat × LRec)} {lo : Nat} {s s1 : St} {Q : AX → St → Prop} {T : List Tr} {l : List Oper}
theorem SeqQ.normal {b : Code} (h : V E rd ys lo b s Q) : SeqQ E rd ys lo b Q .normal s := ⟨h.w⟩
theorem SeqQ.ret {b : Code} (h : Q .ret s) : SeqQ E rd ys lo b Q .ret s := ⟨h⟩
theorem SeqQ.exit {b : Code} {id : Nat} (h : Q (.exit id) s) : SeqQ E rd ys lo b Q (.exit id) s := ⟨h⟩
theorem BlockQ.normal {id : Nat} (h : Q .normal s) : BlockQ id Q .normal s := ⟨h⟩
theorem BlockQ.ret {id : Nat} (h : Q .ret s) : BlockQ id Q .ret s := ⟨h⟩
theorem BlockQ.here {id : Nat} (h : Q .normal s) : BlockQ id Q (.exit id) s := ⟨by simpa using h⟩
theorem BlockQ.there {id id' : Nat} (hn : id' ≠ id) (h : Q (.exit id') s) : BlockQ id Q (.exit id') s := ⟨by simpa [hn] using h⟩
theorem LoopQ.again {I : Nat → St → Prop} {m : Nat} (m' : Nat) (hm : m' < m) (h : I m' s) : LoopQ I m Q .normal s := ⟨m', hm, h⟩
theorem LoopQ.ret {I : Nat → St → Prop} {m : Nat} (h : Q .ret s) : LoopQ I m Q .ret s := ⟨h⟩
theorem LoopQ.exit {I : Nat → St → Prop} {m id : Nat} (h : Q (.exit id) s) : LoopQ I m Q (.exit id) s := ⟨h⟩
theorem FnQ.ret {fn : Func} {K : AV → AHeap → Prop} {r r' : AV} (hr : resultsA E.P fn s = some r') (he : r' = r) (h : K r s.H) : FnQ E fn K .ret s := ⟨r, by rw [hr, he], h⟩
theorem FnQ.normal {fn : Func} {K : AV → AHeap → Prop} {r r' : AV} (hr : resultsA E.P fn s = some r') (he : r' = r) (h : K r s.H) : FnQ E fn K .normal s := ⟨r, by rw [hr, he], h⟩
theorem V.mono {c : Code} {Q' : AX → St → Prop} (h : V E rd ys lo c s Q) (hq : ∀ x s, Q x s → Q' x s) : V E rd ys lo c s Q' := ⟨h.w.mono hq⟩
theorem V.skip (h : Q .normal s) : V E rd ys lo .skip s Q := ⟨W.skip h⟩
theorem V.label {n : Nat} (h : Q .normal s) : V E rd ys lo (.label n) s Q := ⟨W.label h⟩
theorem V.exit {id : Nat} (h : Q (.exit id) s) : V E rd ys lo (.exit id) s Q := ⟨W.exit h⟩
theorem V.ret (h : Q .ret s) : V E rd ys lo .ret s Q := ⟨W.ret h⟩
theorem V.sq {a b : Code} (h : V E rd ys lo a s (SeqQ E rd ys lo b Q)) : V E rd ys lo (.seq a b) s Q := ⟨W.seq (h.w.mono fun x s h => h.q)⟩
theorem V.bl {id : Nat} {c : Code} (h : V E rd ys lo c s (BlockQ id Q)) : V E rd ys lo (.block id c) s Q := ⟨W.block (h.w.mono fun x s h => h.q)⟩
theorem V.sc {c : Code} (h : V E rd ys lo c s Q) : V E rd ys lo (.scope c) s Q := ⟨W.scope h.w⟩
theorem V.lp {c : Code} (I : Nat → St → Prop) (m : Nat) (h0 : I m s) (hr : ∀ m s, I m s → V E rd ys lo c s (LoopQ I m Q)) : V E rd ys lo (.loop c) s Q := ⟨W.loop I m h0 fun m s h => (hr m s h).w.mono fun x s h => h.q⟩
/-- A loop, one round laid out. -/
theorem V.un {c : Code} (h : V E rd ys lo c s (SeqQ E rd ys lo (.loop c) Q)) : V E rd ys lo (.loop c) s Q := by
  obtain ⟨n, x, s1, h1, h2⟩ := h.w
  have h3 := h2.q
  cases x with
  | normal =>
    obtain ⟨m, y, s2, h4, h5⟩ := h3
    refine ⟨max n m + 1, y, s2, ?_, h5⟩
    simp only [exec, execF, exec_mono (Nat.le_max_left n m) _ _ _ _ _ _ h1]
    exact exec_mono (Nat.le_max_right n m) _ _ _ _ _ _ h4
  | ret => exact ⟨n + 1, .ret, s1, by simp only [exec, execF, h1], h3⟩
  | exit id => exact ⟨n + 1, .exit id, s1, by simp only [exec, execF, h1], h3⟩
theorem V.cond {c : Operand} {a b : Code} {t : Bool} (hc : aev s.tm c = .v (.bool t)) (ht : t = true → V E rd ys lo a s Q) (hf : t = false → V E rd ys lo b s Q) : V E rd ys lo (.cond c a b) s Q := ⟨W.cond hc (fun h => (ht h).w) fun h => (hf h).w⟩
theorem V.reg {id : Nat} (h : RO E ys lo l l s s1 T) (hq : Q .normal s1) : V E rd ys lo (.region id (List.toArray l) false) s Q := by
  obtain ⟨n, trs, h1, _⟩ := h.ex
  exact ⟨W.region ⟨n, s1, trs, h1, hq⟩⟩
theorem V.regd {id : Nat} (h : RO E ys lo l l s s1 T) (hb : (okBack l 0 && okPairs (aheads l [] 0) (slotTrs l l) 0 []) = true) (ht : okPairs (aheads l [] 0) T 0 [] = true) (hq : Q .normal s1) : V E rd ys lo (.region id (List.toArray l) true) s Q := by
  obtain ⟨n, trs, h1, h2⟩ := h.ex
  refine ⟨W.region_draw ⟨n, s1, trs, h1, ?_, hq⟩⟩
  show (okBack l 0 && okPairs (aheads l [] 0) (slotTrs l l) 0 [] && okPairs (aheads l [] 0) trs 0 []) = true
  rw [hb, okPairs_le h2 _ _ _ _ (fun p hp => hp) ht]; rfl
theorem WC.enter {f : FuncId} {fn : Func} {body : Code} {args : List AV} {H : AHeap} {K : AV → AHeap → Prop} {tm : Slots} (hf : E.P.funcs[f]? = some fn) (hb : fn.body = some body) (hl : args.length ≤ fn.ntmps) (ht : Slots.of fn.ntmps args = tm) (h : V E false ys lo body ⟨tm, H⟩ (FnQ E fn K)) : WC E ys lo f args H K := by
  subst ht
  exact WC.intro hf hb hl (h.w.mono fun x s hx => by cases x <;> exact hx.q)
end

/-! Calls. -/
theorem idxN_nil (n i : Nat) : idxN [] n i = none := rfl
theorem renC_base (H : AHeap) (lo b b' : Nat) (d : Nat) (x : AV) : renC H lo b [] d x = renC H lo b' [] d x := by cases x <;> simp [renC, idxN_nil]
theorem renV_base (H : AHeap) (lo b b' : Nat) (d : Nat) (x : AV) : renV H lo b [] d x = renV H lo b' [] d x := by
  have e : ren1 H lo b [] d = ren1 H lo b' [] d := by
    funext x
    have e0 : renC H lo b [] d = renC H lo b' [] d := funext (renC_base H lo b b' d)
    cases x <;> simp only [ren1, e0]
  cases x <;> simp only [renV, e]
/-- What a pure call hands back. -/
def frzR (H : AHeap) (lo : Nat) (x : AV) : AV := renV H lo 0 [] frzDepth x

/-- A pure call on values without names. -/
def Pure (E : Env) (f : FuncId) (args : List AV) (x : AV) : Prop := ∀ ys lo H, CallR E ys lo f args H x H ⟨0, 0, 0⟩
theorem WC.pure {E : Env} {f : FuncId} {args : List AV} {K : AV → Prop} (hpol : E.pol f = .pure) (hnf : args.all nf = true) (hc : WC E [] 0 f args .empty fun r H => K (frzR H 0 r)) : ∃ x, K x ∧ Pure E f args x := by
  obtain ⟨n, r, H', h1, h2⟩ := hc
  refine ⟨_, h2, fun ys lo H => ⟨n, ?_⟩⟩
  have h1' : (callF E (exec E n) ys lo).call false 0 f args .empty = some (r, H') := h1
  have hz : newBits H.next (H.next - H.next) = 0 := by simp [newBits]
  simp only [runPlan, hpol, hnf, if_true, h1', hand_pure, hz, fNat_eq]
  rw [renV_base _ _ _ 0]; rfl
theorem WC.pure' {E : Env} {f : FuncId} {args : List AV} {x : AV} (hpol : E.pol f = .pure) (hnf : args.all nf = true) (hc : WC E [] 0 f args .empty fun r H => frzR H 0 r = x) : Pure E f args x := by
  obtain ⟨y, rfl, h⟩ := WC.pure (K := fun y => y = x) hpol hnf hc
  exact h
/-- A pure call that reads the heap H. -/
theorem WC.pureH {E : Env} {ys : List (Nat × LRec)} {lo : Nat} {f : FuncId} {args : List AV} {H : AHeap} {K : AV → Prop} (hpol : E.pol f = .pure) (hnf : args.all nf = false) (hc : WC E [] H.next f args H fun r H' => K (frzR H' H.next r)) : ∃ x, K x ∧ CallR E ys lo f args H x H ⟨0, 0, 1⟩ := by
  obtain ⟨n, r, H', h1, h2⟩ := hc
  refine ⟨_, h2, n, ?_⟩
  have h1' : (callF E (exec E n) ys lo).call false H.next f args H = some (r, H') := h1
  have hz : newBits H.next (H.next - H.next) = 0 := by simp [newBits]
  simp only [runPlan, hpol, hnf, Bool.false_eq_true, if_false, h1', hand_pure, hz, fNat_eq]
  rw [renV_base _ _ _ 0]; rfl
/-- A call on the shared heap. -/
theorem WC.eff {E : Env} {ys : List (Nat × LRec)} {lo : Nat} {f : FuncId} {args : List AV} {H : AHeap} {K : AV → AHeap → Prop} (hpol : E.pol f = .eff) (hc : WC E ys lo f args H K) : ∃ x H', K x H' ∧ CallR E ys lo f args H x H' ⟨0, 0, 2⟩ := by
  obtain ⟨n, r, H', h1, h2⟩ := hc
  refine ⟨r, H', h2, n, ?_⟩
  have h1' : (callF E (exec E n) ys lo).call true lo f args H = some (r, H') := h1
  simp only [runPlan, hpol, h1']
/-- A call that hands blocks of its own over: x, bs, by the caller's next name. -/
def Own (E : Env) (f : FuncId) (args : List AV) (x : Nat → AV) (bs : Nat → List Blk) : Prop := ∀ ys lo H, CallR E ys lo f args H (x H.next) (pushAll H (bs H.next)) ⟨0, newBits H.next (bs H.next).length, 0⟩
def Hands (H : AHeap) (lo : Nat) (r : AV) (x : Nat → AV) (bs : Nat → List Blk) : Prop :=
  ∃ T, ownN H lo r = T ∧ nodupN T = true ∧ T.all (Nat.ble lo) = true ∧ ∀ b, blksA H lo b T frzDepth T = some (bs b) ∧ renV H lo b T frzDepth r = x b
theorem hand_own {H : AHeap} {lo : Nat} {r : AV} {x : Nat → AV} {bs : Nat → List Blk} (h : Hands H lo r x bs) (G : AHeap) : hand H lo true G r = some (x G.next, pushAll G (bs G.next)) := by
  obtain ⟨T, rfl, h2, h3, h4⟩ := h
  simp only [hand, if_true, h2, h3, Bool.and_self, blksS_eq, (h4 G.next).1, Option.bind_some, renVS_eq, pushS_eq, (h4 G.next).2]
theorem WC.own {E : Env} {f : FuncId} {args : List AV} {K : (Nat → AV) → (Nat → List Blk) → Prop} (hpol : E.pol f = .own) (hnf : args.all nf = true) (hc : WC E [] 0 f args .empty fun r H => ∃ x bs, Hands H 0 r x bs ∧ K x bs) : ∃ x bs, K x bs ∧ Own E f args x bs := by
  obtain ⟨n, r, H', h1, x, bs, h2, h3⟩ := hc
  refine ⟨x, bs, h3, fun ys lo H => ⟨n, ?_⟩⟩
  have h1' : (callF E (exec E n) ys lo).call false 0 f args .empty = some (r, H') := h1
  have e : H.next + (bs H.next).length - H.next = (bs H.next).length := by omega
  simp only [runPlan, hpol, hnf, if_true, h1', hand_own h2, pushAll_next, e, fNat_eq]
theorem WC.ownH {E : Env} {ys : List (Nat × LRec)} {lo : Nat} {f : FuncId} {args : List AV} {H : AHeap} {K : (Nat → AV) → (Nat → List Blk) → Prop} (hpol : E.pol f = .own) (hnf : args.all nf = false) (hc : WC E [] H.next f args H fun r H' => ∃ x bs, Hands H' H.next r x bs ∧ K x bs) :
    ∃ x bs, K x bs ∧ CallR E ys lo f args H (x H.next) (pushAll H (bs H.next)) ⟨0, newBits H.next (bs H.next).length, 1⟩ := by
  obtain ⟨n, r, H', h1, x, bs, h2, h3⟩ := hc
  refine ⟨x, bs, h3, n, ?_⟩
  have h1' : (callF E (exec E n) ys lo).call false H.next f args H = some (r, H') := h1
  have e : H.next + (bs H.next).length - H.next = (bs H.next).length := by omega
  simp only [runPlan, hpol, hnf, Bool.false_eq_true, if_false, h1', hand_own h2, pushAll_next, e, fNat_eq]
end Go.Am

namespace Go.Am

def nth {α : Type} (d : α) : List α → Nat → α
  | [], _ => d
  | a :: _, 0 => a
  | _ :: l, n + 1 => nth d l n
theorem nth_getD {α : Type} (d : α) (l : List α) (n : Nat) : nth d l n = l.getD n d := by
  induction l generalizing n with
  | nil => rfl
  | cons a l ih => cases n with
    | zero => rfl
    | succ n => simp [nth, ih]
theorem get_nth (n : Nat) (c : List (List AV)) (t : Nat) : Slots.get ⟨n, c⟩ t = nth (.tup []) (nth [] c (t / 8)) (t % 8) := by simp only [Slots.get, getR_eq, nth_getD]
theorem nth_zero {α : Type} (d a : α) (l : List α) : nth d (a :: l) 0 = a := rfl
theorem nth_succ {α : Type} (d a : α) (l : List α) (n : Nat) : nth d (a :: l) (n + 1) = nth d l n := rfl

theorem aev_tmp (tm : Slots) (t : Nat) : aev tm (.tmp t) = tm.get t := rfl
theorem aev_int (tm : Slots) (k : IntKind) (n : Int) : aev tm (.const (.int k n)) = .v (.int k n) := rfl
theorem aev_bool (tm : Slots) (b : Bool) : aev tm (.const (.bool b)) = .v (.bool b) := rfl
theorem aev_str (tm : Slots) (s : ByteArray) : aev tm (.const (.string s)) = .v (.string s) := rfl
theorem aev_nilS (tm : Slots) : aev tm (.const (.slice none 0 0)) = .v (.slice none 0 0) := rfl
theorem aev_nilP (tm : Slots) : aev tm (.const (.pointer none)) = .v (.pointer none) := rfl
theorem aev_nilF (tm : Slots) : aev tm (.const .nilFunc) = .v .nilFunc := rfl
theorem aev_func (tm : Slots) (f : FuncId) : aev tm (.func f) = .fn f [] := rfl
/-! Heaps. -/
theorem look_putB (l : List (Nat × Blk)) (n m : Nat) (b : Blk) : look (putB l n b) m = if n = m then some b else look l m := by
  induction l with
  | nil => simp [putB, look]
  | cons x l ih =>
    obtain ⟨k, c⟩ := x
    simp only [putB]
    by_cases h : k = n
    · subst h; simp only [if_true, look]; split <;> rfl
    · rw [if_neg h]; simp only [look, ih]
      by_cases h2 : k = m
      · subst h2; rw [if_pos rfl, if_neg (Ne.symm h), if_pos rfl]
      · simp only [if_neg h2]
theorem get_push (H : AHeap) (b : Blk) (n : Nat) : (H.push b).get n = if H.next = n then some b else H.get n := rfl
theorem get_set (H : AHeap) (b : Blk) (n m : Nat) : (H.set n b).get m = if n = m then some b else H.get m := look_putB _ _ _ _
theorem get_empty (n : Nat) : AHeap.empty.get n = none := rfl
theorem next_push (H : AHeap) (b : Blk) : (H.push b).next = H.next + 1 := rfl
theorem next_set (H : AHeap) (b : Blk) (n : Nat) : (H.set n b).next = H.next := rfl
theorem next_empty : AHeap.empty.next = 0 := rfl
theorem js_push (H : AHeap) (b : Blk) : (H.push b).js = H.js := rfl
theorem js_set (H : AHeap) (b : Blk) (n : Nat) : (H.set n b).js = H.js := rfl
theorem set_push (H : AHeap) (b b' : Blk) (n : Nat) : (H.push b).set n b' = if H.next = n then H.push b' else (H.set n b').push b := by
  simp only [AHeap.set, AHeap.push, putB]
  split <;> rename_i h
  · subst h; rfl
  · rfl
theorem putB_putB (l : List (Nat × Blk)) (n : Nat) (b b' : Blk) : putB (putB l n b) n b' = putB l n b' := by
  induction l with
  | nil => simp [putB]
  | cons x l ih =>
    obtain ⟨k, c⟩ := x
    simp only [putB]
    by_cases h : k = n
    · simp [h, putB]
    · simp [h, putB, ih]
theorem set_set (H : AHeap) (b b' : Blk) (n : Nat) : (H.set n b).set n b' = H.set n b' := by simp only [AHeap.set, putB_putB]

/-! Plans. -/
theorem primL_val (lo : Nat) (H : AHeap) (x : AV) : primL lo H (.val x) = some (x, H, ⟨0, 0, 0⟩) := rfl
theorem primL_opt (lo : Nat) (H : AHeap) (x : AV) : primL lo H (.opt (some x)) = some (x, H, ⟨0, 0, 0⟩) := rfl
theorem primL_prim0 (lo : Nat) (H : AHeap) (k : List Blk → Option Eff) : primL lo H (.prim [] k) = (k []).bind (effL lo H []) := rfl
theorem primL_prim1 (lo : Nat) (H : AHeap) (n : Nat) (k : List Blk → Option Eff) : primL lo H (.prim [n] k) = (H.get n).bind fun b => (k [b]).bind (effL lo H [n]) := by
  simp only [primL, getAll]
  cases H.get n <;> rfl
theorem primL_prim2 (lo : Nat) (H : AHeap) (n m : Nat) (k : List Blk → Option Eff) : primL lo H (.prim [n, m] k) = (H.get n).bind fun b => (H.get m).bind fun c => (k [b, c]).bind (effL lo H [n, m]) := by
  simp only [primL, getAll]
  cases H.get n <;> cases H.get m <;> rfl
theorem effL_none (lo : Nat) (H : AHeap) (rd : List Nat) (x : AV) : effL lo H rd (.none x) = some (x, H, ⟨bitsOf rd, 0, 0⟩) := rfl
theorem effL_set0 (H : AHeap) (n : Nat) (b : Blk) (x : AV) : effL 0 H [n] (.set n b x) = some (x, H.set n b, ⟨bitsOf [n], 2 ^ n, 0⟩) := by simp [effL]
theorem effL_set0' (H : AHeap) (n m : Nat) (b : Blk) (x : AV) : effL 0 H [n, m] (.set n b x) = some (x, H.set n b, ⟨bitsOf [n, m], 2 ^ n, 0⟩) := by simp [effL]
theorem effL_set (lo : Nat) (H : AHeap) (n : Nat) (b : Blk) (x : AV) : effL lo H [n] (.set n b x) = if lo ≤ n then some (x, H.set n b, ⟨bitsOf [n], 2 ^ n, 0⟩) else none := by simp [effL]
theorem effL_set' (lo : Nat) (H : AHeap) (n m : Nat) (b : Blk) (x : AV) : effL lo H [n, m] (.set n b x) = if lo ≤ n then some (x, H.set n b, ⟨bitsOf [n, m], 2 ^ n, 0⟩) else none := by simp [effL]
theorem effL_new (lo : Nat) (H : AHeap) (rd : List Nat) (b : Blk) (x : Nat → AV) : effL lo H rd (.new b x) = some (x H.next, H.push b, ⟨bitsOf rd, 2 ^ H.next, 0⟩) := rfl
theorem primL_live (lo : Nat) (H : AHeap) (n e : Nat) (x : AV) : primL lo H (live n e x) = (H.get n).bind fun b => if b.ep = e then some (x, H, ⟨bitsOf [n], 0, 0⟩) else none := by
  simp only [live, primL_prim1]
  cases H.get n with
  | none => rfl
  | some b => simp only [Option.bind_some]; split <;> rfl

section
variable (E : Env) (d : Option Tmp) (ty : TypeId) (pos : String) (af : Array Edge) (g : Option (Nat × Bool)) (ρ : Operand → AV)
theorem plan_move (x : Operand) : plan E ⟨d, .move x, ty, pos, af, g⟩ ρ = .val (ρ x) := rfl
theorem plan_assign (x : Operand) : plan E ⟨d, .assign x, ty, pos, af, g⟩ ρ = .val (ρ x) := rfl
def pickA (c a b : AV) : Plan := match c with
  | .v (.bool t) => .val (if t then a else b)
  | _ => .bad
theorem plan_pick (c a b : Operand) : plan E ⟨d, .pick c a b, ty, pos, af, g⟩ ρ = pickA (ρ c) (ρ a) (ρ b) := rfl
theorem pickA_v (t : Bool) (a b : AV) : pickA (.v (.bool t)) a b = .val (bif t then a else b) := by cases t <;> rfl
theorem plan_alloc (t : TypeId) : plan E ⟨d, .alloc t, ty, pos, af, g⟩ ρ = match zeroCells E.P t with
    | some z => .prim [] fun _ => some (.new { elem := t, sz := z.length, ep := 0, es := [z] } fun n => .op n 0 0 0)
    | none => .bad := rfl
theorem plan_box (t : TypeId) (x : Operand) : plan E ⟨d, .box t x, ty, pos, af, g⟩ ρ = match cellsOf (ρ x) with
    | some cs => .prim [] fun _ => some (.new { elem := t, sz := cs.length, ep := 0, es := [cs] } fun n => .op n 0 0 0)
    | none => .bad := rfl
def buildInfo (P : Program) (t : TypeId) : Option (List AV × List (Nat × Nat)) := match zeroCells P t, P.underlying t with
  | some z, some (.struct fields) => (placesA P fields.toList).map fun ps => (z, ps)
  | _, _ => none
def arrInfo (P : Program) (t : TypeId) : Option (List AV × Nat) := match zeroCells P t, P.underlying t with
  | some z, some (.array _ elem) => (infoSize P elem).map fun s => (z, s)
  | _, _ => none
theorem plan_build (t : TypeId) (parts : Array (Nat × Operand)) : plan E ⟨d, .build t parts, ty, pos, af, g⟩ ρ = match buildInfo E.P t with
    | some (z, ps) => .opt ((fillA (fun i => ps[i]?) z (parts.toList.map fun p => (p.1, ρ p.2))).map .agg)
    | none => match arrInfo E.P t with
      | some (z, size) => .opt ((fillA (fun i => some (i * size, size)) z (parts.toList.map fun p => (p.1, ρ p.2))).map .agg)
      | none => .bad := by
  simp only [plan, buildInfo, arrInfo]
  cases zeroCells E.P t with
  | none => rfl
  | some z =>
    cases E.P.underlying t with
    | none => rfl
    | some u =>
      cases u with
      | struct fields =>
        dsimp only
        cases placesA E.P fields.toList with
        | none => rfl
        | some ps => rfl
      | array n e =>
        dsimp only
        cases infoSize E.P e with
        | none => rfl
        | some s => rfl
      | _ => rfl
theorem fillA_nil (place : Nat → Option (Nat × Nat)) (cells : List AV) : fillA place cells [] = some cells := rfl
theorem fillA_cons (place : Nat → Option (Nat × Nat)) (cells : List AV) (i : Nat) (x : AV) (r : List (Nat × AV)) : fillA place cells ((i, x) :: r) = (place i).bind fun p => (cellsOf x).bind fun cs => if cs.length = p.2 ∧ p.1 + p.2 ≤ cells.length then fillA place (setCells cells p.1 cs) r else none := rfl
theorem fillE_nil (size : Nat) (es : List (List AV)) : fillE size es [] = some es := rfl
theorem fillE_cons (size : Nat) (es : List (List AV)) (i : Nat) (x : AV) (r : List (Nat × AV)) : fillE size es ((i, x) :: r) = (cellsOf x).bind fun cs => if cs.length = size ∧ i < es.length then fillE size (es.set i cs) r else none := rfl
def sliceInfo (P : Program) (t : TypeId) : Option (TypeId × Nat × List AV) := match P.underlying t with
  | some (.slice elem) => match infoSize P elem, zeroCells P elem with
    | some size, some z => if size = 0 ∨ z.length ≠ size then none else some (elem, size, z)
    | _, _ => none
  | _ => none
theorem plan_buildSlice (t : TypeId) (len : Nat) (parts : Array (Nat × Operand)) : plan E ⟨d, .buildSlice t len parts, ty, pos, af, g⟩ ρ = match sliceInfo E.P t with
    | some (elem, size, z) => if len * size ≤ 2 ^ 24 then .prim [] fun _ => (fillE size (List.replicate len z) (parts.toList.map fun p => (p.1, ρ p.2))).map fun es => if len = 0 then .none .e0 else newB (E.frzB t) elem size len es else .bad
    | none => .bad := by
  simp only [plan, sliceInfo]
  cases E.P.underlying t with
  | none => rfl
  | some u =>
    cases u with
    | slice e =>
      dsimp only
      cases infoSize E.P e with
      | none => rfl
      | some size =>
        cases zeroCells E.P e with
        | none => rfl
        | some z =>
          dsimp only
          by_cases h1 : size = 0 ∨ z.length ≠ size
          · rw [if_pos h1, if_pos (.inr h1)]
          · rw [if_neg h1]
            dsimp only
            by_cases h2 : len * size ≤ 2 ^ 24
            · rw [if_pos h2, if_neg (by rintro (h | h)
                                        · omega
                                        · exact h1 h)]
            · rw [if_neg h2, if_pos (.inl (by omega))]
    | _ => rfl
def slSz (P : Program) (t : TypeId) : Option Nat := (sliceInfo P t).map (·.2.1)
def loadA (E : Env) (t : TypeId) (a : AV) : Plan := match a with
    | .fp cs => .opt (partA E.P t cs)
    | .op n e i j => .prim [n] fun
      | [b] => if b.ep = e ∧ b.it.isNone ∧ i < b.es.length ∧ j ≤ b.sz then (partA E.P t ((b.es.getD i []).drop j)).map .none else none
      | _ => none
    | _ => .bad
theorem newB_f (elem : TypeId) (size len : Nat) (es : List (List AV)) : newB false elem size len es = .new { elem, sz := size, ep := 0, es } fun n => .os n 0 0 len := rfl
theorem newB_2 (elem : TypeId) (size len : Nat) (a b : Value) : newB true elem size len [[.v a, .v b]] = .none (.sl size [[.v a, .v b]]) := rfl
theorem plan_load (t : TypeId) (a : Operand) : plan E ⟨d, .load t a, ty, pos, af, g⟩ ρ = loadA E t (ρ a) := rfl
theorem loadA_fp (t : TypeId) (cs : List AV) : loadA E t (.fp cs) = .opt (partA E.P t cs) := rfl
theorem loadA_op (lo : Nat) (H : AHeap) (t : TypeId) (n e i j : Nat) : primL lo H (loadA E t (.op n e i j)) = (H.get n).bind fun b => if b.ep = e ∧ b.it.isNone = true ∧ i < b.es.length ∧ j ≤ b.sz then (partA E.P t ((nth [] b.es i).drop j)).map (fun x => (x, H, ⟨bitsOf [n], 0, 0⟩)) else none := by
  simp only [loadA, primL_prim1, nth_getD]
  cases H.get n with
  | none => rfl
  | some b =>
    simp only [Option.bind_some]
    split
    · cases partA E.P t ((b.es.getD i []).drop j) <;> rfl
    · rfl
def storeA (E : Env) (t : TypeId) (a x : AV) : Plan := match a, cellsOf x, infoSize E.P t with
    | .op n e i j, some cs, some s => .prim [n] fun
      | [b] => if b.ep = e ∧ b.it.isNone ∧ i < b.es.length ∧ cs.length = s ∧ j + s ≤ b.sz then some (.set n { b with es := b.es.set i (setCells (b.es.getD i []) j cs) } (.tup [])) else none
      | _ => none
    | _, _, _ => .bad
theorem plan_store (t : TypeId) (a x : Operand) : plan E ⟨d, .store t a x, ty, pos, af, g⟩ ρ = storeA E t (ρ a) (ρ x) := rfl
theorem storeA_op (lo : Nat) (H : AHeap) (t : TypeId) (n e i j : Nat) (x : AV) : primL lo H (storeA E t (.op n e i j) x) = (cellsOf x).bind fun cs => (infoSize E.P t).bind fun s => (H.get n).bind fun b => if (b.ep = e ∧ b.it.isNone = true ∧ i < b.es.length ∧ cs.length = s ∧ j + s ≤ b.sz) ∧ lo ≤ n then some (.tup [], H.set n ⟨b.elem, b.sz, b.ep, b.es.set i (setCells (nth [] b.es i) j cs), b.it⟩, ⟨bitsOf [n], 2 ^ n, 0⟩) else none := by
  simp only [storeA]
  cases cellsOf x with
  | none => rfl
  | some cs =>
  cases infoSize E.P t with
  | none => rfl
  | some s =>
  simp only [primL_prim1, nth_getD, Option.bind_some]
  cases H.get n with
  | none => rfl
  | some b =>
    simp only [Option.bind_some]
    by_cases hc : b.ep = e ∧ b.it.isNone = true ∧ i < b.es.length ∧ cs.length = s ∧ j + s ≤ b.sz
    · rw [if_pos hc]; simp only [Option.bind_some, effL_set, hc, true_and]
    · rw [if_neg hc, if_neg (fun h => hc h.1)]; rfl
theorem plan_nilCheck (x : Operand) : plan E ⟨d, .nilCheck x, ty, pos, af, g⟩ ρ = match ρ x with
    | .fp cs => .val (.fp cs)
    | .op n e i j => live n e (.op n e i j)
    | _ => .bad := rfl
theorem plan_binOp (op : BinOp) (t : TypeId) (x y : Operand) (yt : TypeId) : plan E ⟨d, .binOp op t x y yt, ty, pos, af, g⟩ ρ = binOpA E op t x y (ρ x) (ρ y) := rfl
theorem plan_unOp (op : UnOp) (t : TypeId) (x : Operand) : plan E ⟨d, .unOp op t x, ty, pos, af, g⟩ ρ = match ρ x with
    | .v a => .opt (plainV (det E.P (Op.unary op a)))
    | _ => .bad := rfl
theorem plan_convert (src dst : TypeId) (x : Operand) : plan E ⟨d, .convert src dst x, ty, pos, af, g⟩ ρ = convA E src dst (ρ x) := rfl
def makeSliceA (E : Env) (t : TypeId) (l c : AV) : Plan := match E.P.underlying t, l, c with
    | some (.slice elem), .v (.int _ l), .v (.int _ c) => match infoSize E.P elem, infoBytes E.P elem, zeroCells E.P elem with
      | some size, some bytes, some z =>
        if 0 ≤ l ∧ l ≤ c ∧ bytes * c ≤ roomMax ∧ 0 < bytes ∧ 0 < size ∧ z.length = size then
          .prim [] fun _ => some (.new { elem, sz := size, ep := 0, es := List.replicate l.toNat z } fun n => .os n 0 0 l.toNat)
        else .bad
      | _, _, _ => .bad
    | _, _, _ => .bad
theorem plan_makeSlice (t : TypeId) (l c : Operand) : plan E ⟨d, .makeSlice t l c, ty, pos, af, g⟩ ρ = makeSliceA E t (ρ l) (ρ c) := rfl
theorem plan_slice (t : TypeId) (x : Operand) (lo hi mx : Option Operand) : plan E ⟨d, .slice t x lo hi mx, ty, pos, af, g⟩ ρ = sliceA E t (ρ x) (lo.map ρ) (hi.map ρ) (mx.map ρ) := rfl
def fieldOff (P : Program) (s f : Nat) : Option Nat := match fieldAt? P s f with
  | some (off, ft) => match infoSize P ft with
    | some (_ + 1) => some off
    | _ => none
  | none => none
def fieldAddrA (E : Env) (s f : Nat) (x : AV) : Plan := match fieldOff E.P s f, x with
  | some off, .op n e i j => live n e (.op n e i (j + off))
  | some off, .fp cs => .val (.fp (cs.drop off))
  | _, _ => .bad
theorem plan_fieldAddr (s f : Nat) (x : Operand) : plan E ⟨d, .fieldAddr s x f, ty, pos, af, g⟩ ρ = fieldAddrA E s f (ρ x) := by
  simp only [plan, fieldAddrA, fieldOff]
  cases h1 : fieldAt? E.P s f with
  | none => rfl
  | some q =>
    obtain ⟨o, ft⟩ := q
    dsimp only
    cases h2 : infoSize E.P ft with
    | none => simp only [h2]
    | some k => cases k with
      | zero => simp only [h2]
      | succ k => cases hx : ρ x <;> simp only [h2, hx]
def fieldA (E : Env) (s f : Nat) (x : AV) : Plan := match fieldAt? E.P s f, x with
    | some (off, ft), .agg cs => .opt (partA E.P ft (cs.drop off))
    | _, _ => .bad
theorem plan_field (s f : Nat) (x : Operand) : plan E ⟨d, .field s x f, ty, pos, af, g⟩ ρ = fieldA E s f (ρ x) := rfl
def indexAddrA (E : Env) (t : TypeId) (x ix : AV) : Plan := match E.P.underlying t, ix with
    | some (.slice elem), .v (.int _ i) => match infoSize E.P elem, x with
      | some size, .sl sz es => if 0 ≤ i ∧ i < es.length ∧ sz = size then .val (.fp (es.getD i.toNat [])) else .bad
      | some size, .os n e off len => .prim [n] fun
        | [b] => if b.ep = e ∧ b.it.isNone ∧ off + len ≤ b.es.length ∧ b.sz = size ∧ 0 ≤ i ∧ i < len then some (.none (.op n e (off + i.toNat) 0)) else none
        | _ => none
      | _, _ => .bad
    | some (.array len elem), .v (.int _ i) => match infoSize E.P elem, x with
      | some size, .fp cs => if 0 ≤ i ∧ i < len then .val (.fp (cs.drop (i.toNat * size))) else .bad
      | some size, .op n e i' j => if 0 ≤ i ∧ i < len then live n e (.op n e i' (j + i.toNat * size)) else .bad
      | _, _ => .bad
    | _, _ => .bad
theorem plan_indexAddr (t : TypeId) (x ix : Operand) : plan E ⟨d, .indexAddr t x ix, ty, pos, af, g⟩ ρ = indexAddrA E t (ρ x) (ρ ix) := rfl
theorem slSz_ok {P : Program} {t : TypeId} {s : Nat} (h : slSz P t = some s) : ∃ e, P.underlying t = some (.slice e) ∧ infoSize P e = some s := by
  unfold slSz sliceInfo at h
  split at h
  · rename_i e h1
    split at h
    · rename_i s' z h2 h3
      split at h
      · cases h
      · simp only [Option.map_some, Option.some.injEq] at h; subst h; exact ⟨e, h1, h2⟩
    · cases h
  · cases h
theorem indexAddrA_sl (lo : Nat) (H : AHeap) (t : TypeId) (sz : Nat) (es : List (List AV)) (κ : IntKind) (i : Int) {size : Nat} (h : slSz E.P t = some size) : primL lo H (indexAddrA E t (.sl sz es) (.v (.int κ i))) = if 0 ≤ i ∧ i < es.length ∧ sz = size then some (.fp (nth [] es i.toNat), H, ⟨0, 0, 0⟩) else none := by
  obtain ⟨e, h1, h2⟩ := slSz_ok h
  simp only [indexAddrA, nth_getD, h1, h2]
  split <;> rfl
theorem indexAddrA_os (lo : Nat) (H : AHeap) (t : TypeId) (n e off len : Nat) (κ : IntKind) (i : Int) {size : Nat} (h : slSz E.P t = some size) : primL lo H (indexAddrA E t (.os n e off len) (.v (.int κ i))) = (H.get n).bind fun b => if b.ep = e ∧ b.it.isNone = true ∧ off + len ≤ b.es.length ∧ b.sz = size ∧ 0 ≤ i ∧ i < len then some (.op n e (off + i.toNat) 0, H, ⟨bitsOf [n], 0, 0⟩) else none := by
  obtain ⟨e, h1, h2⟩ := slSz_ok h
  simp only [indexAddrA, h1, h2, primL_prim1]
  cases H.get n with
  | none => rfl
  | some b => simp only [Option.bind_some]; split <;> rfl
/-- The same, for a slice of the operation's own size. -/
theorem index_os (lo : Nat) (H : AHeap) (t : TypeId) (n e off len : Nat) (κ : IntKind) (i : Int) (h : (slSz E.P t).isSome = true) : primL lo H (indexAddrA E t (.os n e off len) (.v (.int κ i))) = (H.get n).bind fun b => if b.ep = e ∧ b.it.isNone = true ∧ off + len ≤ b.es.length ∧ some b.sz = slSz E.P t ∧ 0 ≤ i ∧ i < len then some (.op n e (off + i.toNat) 0, H, ⟨bitsOf [n], 0, 0⟩) else none := by
  obtain ⟨s, hs⟩ := Option.isSome_iff_exists.1 h
  rw [indexAddrA_os E lo H t n e off len κ i hs, hs]
  simp only [Option.some.injEq]
def indexA (E : Env) (t : TypeId) (x ix : AV) : Plan := match E.P.underlying t, x, ix with
    | some .string, .v (.string s), .v (.int _ i) => if 0 ≤ i then (match s.data.toList[i.toNat]? with | some b => .val (.v (.int .u8 b.toNat)) | none => .bad) else .bad
    | some (.array len elem), .agg cs, .v (.int _ i) => match infoSize E.P elem with
      | some size => if 0 ≤ i ∧ i < len then .opt (partA E.P elem (cs.drop (i.toNat * size))) else .bad
      | none => .bad
    | _, _, _ => .bad
theorem plan_index (t : TypeId) (x ix : Operand) : plan E ⟨d, .index t x ix, ty, pos, af, g⟩ ρ = indexA E t (ρ x) (ρ ix) := rfl
theorem plan_extract (t : Operand) (k : Nat) : plan E ⟨d, .extract t k, ty, pos, af, g⟩ ρ = match ρ t with
    | .tup vs => .opt (vs[k]?)
    | _ => .bad := rfl
theorem plan_builtin (b : Builtin) (args : Array Operand) (ats : Array TypeId) : plan E ⟨d, .call ⟨.builtin b, args, ats⟩, ty, pos, af, g⟩ ρ = builtinA E b ats ty (args.toList.map ρ) := rfl
def callA (f : AV) (args : List AV) : Plan := match f with
      | .fn f caps => .call f (args ++ caps)
      | .yl k => .yield k args
      | _ => .bad
theorem plan_call (f : Operand) (args : Array Operand) (ats : Array TypeId) : plan E ⟨d, .call ⟨.value f, args, ats⟩, ty, pos, af, g⟩ ρ = callA (ρ f) (args.toList.map ρ) := rfl
theorem callA_fn (f : FuncId) (caps args : List AV) : callA (.fn f caps) args = .call f (args ++ caps) := rfl

/-! Numbers, bools, strings. -/
theorem bin_lss (t : TypeId) (xo yo : Operand) (k : IntKind) (a b : Int) : binOpA E .lss t xo yo (.v (.int k a)) (.v (.int k b)) = .val (.v (.bool (decide (a < b)))) := by cases k <;> rfl
theorem bin_leq (t : TypeId) (xo yo : Operand) (k : IntKind) (a b : Int) : binOpA E .leq t xo yo (.v (.int k a)) (.v (.int k b)) = .val (.v (.bool (decide (a ≤ b)))) := by cases k <;> rfl
theorem bin_gtr (t : TypeId) (xo yo : Operand) (k : IntKind) (a b : Int) : binOpA E .gtr t xo yo (.v (.int k a)) (.v (.int k b)) = .val (.v (.bool (decide (b < a)))) := by cases k <;> rfl
theorem bin_geq (t : TypeId) (xo yo : Operand) (k : IntKind) (a b : Int) : binOpA E .geq t xo yo (.v (.int k a)) (.v (.int k b)) = .val (.v (.bool (decide (b ≤ a)))) := by cases k <;> rfl
theorem bin_eql (t : TypeId) (xo yo : Operand) (k : IntKind) (a b : Int) : binOpA E .eql t xo yo (.v (.int k a)) (.v (.int k b)) = .val (.v (.bool (decide (a = b)))) := by
  have h : (a == b) = decide (a = b) := by by_cases h : a = b <;> simp [h]
  rw [← h]; cases k <;> rfl
theorem bin_neq (t : TypeId) (xo yo : Operand) (k : IntKind) (a b : Int) : binOpA E .neq t xo yo (.v (.int k a)) (.v (.int k b)) = .val (.v (.bool (!decide (a = b)))) := by
  have h : (a != b) = !decide (a = b) := by by_cases h : a = b <;> simp [h]
  rw [← h]; cases k <;> rfl
theorem bin_add (t : TypeId) (xo yo : Operand) (k : IntKind) (a b : Int) : binOpA E .add t xo yo (.v (.int k a)) (.v (.int k b)) = .val (.v (.int k (k.wrap (a + b)))) := by cases k <;> rfl
theorem bin_sub (t : TypeId) (xo yo : Operand) (k : IntKind) (a b : Int) : binOpA E .sub t xo yo (.v (.int k a)) (.v (.int k b)) = .val (.v (.int k (k.wrap (a - b)))) := by cases k <;> rfl
theorem bin_mul (t : TypeId) (xo yo : Operand) (k : IntKind) (a b : Int) : binOpA E .mul t xo yo (.v (.int k a)) (.v (.int k b)) = .val (.v (.int k (k.wrap (a * b)))) := by cases k <;> rfl
theorem bin_quo (t : TypeId) (xo yo : Operand) (k : IntKind) (a b : Int) (hb : b ≠ 0) : binOpA E .quo t xo yo (.v (.int k a)) (.v (.int k b)) = .val (.v (.int k (k.wrap (a.tdiv b)))) := by
  have : det E.P (Op.intDiv .quo k a b) = some (.int k (k.wrap (a.tdiv b))) := by simp only [Op.intDiv, if_neg hb]; rfl
  have h2 : det E.P (do eqGuard .quo t xo yo (.int k a) (.int k b); binOp .quo t (.int k a) (.int k b)) = det E.P (Op.intDiv .quo k a b) := by cases k <;> rfl
  simp only [binOpA, h2, this]; rfl
theorem bin_rem (t : TypeId) (xo yo : Operand) (k : IntKind) (a b : Int) (hb : b ≠ 0) : binOpA E .rem t xo yo (.v (.int k a)) (.v (.int k b)) = .val (.v (.int k (a.tmod b))) := by
  have : det E.P (Op.intDiv .rem k a b) = some (.int k (a.tmod b)) := by simp only [Op.intDiv, if_neg hb]; rfl
  have h2 : det E.P (do eqGuard .rem t xo yo (.int k a) (.int k b); binOp .rem t (.int k a) (.int k b)) = det E.P (Op.intDiv .rem k a b) := by cases k <;> rfl
  simp only [binOpA, h2, this]; rfl
theorem det_underlying {α : Type} {P : Program} {t : TypeId} {u : TypeDesc} (h : P.underlying t = some u) (k : TypeDesc → Sem α) : det P (underlying t >>= k) = det P (k u) := by
  simp only [underlying, program, bind, Sem.bind, det]
  rw [h]; rfl
theorem det_equal {t : TypeId} {u : TypeDesc} {x y : Value} {r : Bool} (h : E.P.underlying t = some u) (hr : ∀ d, det E.P (Op.equalIn (d + 1) t x y) = some r) : det E.P (Op.equal t x y) = some r := hr 9999
theorem det_map {P : Program} {s : Sem Bool} {r : Bool} (f : Bool → Value) (h : det P s = some r) : det P (s >>= fun b => pure (f b)) = some (f r) := by
  induction s with
  | pure b => simp only [det, Option.some.injEq] at h; subst h; rfl
  | program k ih => exact ih P h
  | mark m k ih => exact ih h
  | _ => cases h
theorem equalIn_bool {t : TypeId} (h : E.P.underlying t = some .bool) (a b : Bool) : det E.P (Op.equal t (.bool a) (.bool b)) = some (a == b) :=
  det_equal E h fun d => by simp only [Op.equalIn, det_underlying h]; rfl
theorem equalIn_ptr {t e : TypeId} (h : E.P.underlying t = some (.pointer e)) : det E.P (Op.equal t (.pointer none) (.pointer none)) = some true :=
  det_equal E h fun d => by simp only [Op.equalIn, det_underlying h]; rfl
theorem equalIn_slice {t e : TypeId} (h : E.P.underlying t = some (.slice e)) : det E.P (Op.equal t (.slice none 0 0) (.slice none 0 0)) = some true :=
  det_equal E h fun d => by simp only [Op.equalIn, det_underlying h]; rfl
theorem bin_beq (t : TypeId) (xo yo : Operand) (a b : Bool) (h : E.P.underlying t = some .bool) : binOpA E .eql t xo yo (.v (.bool a)) (.v (.bool b)) = .val (.v (.bool (a == b))) := by
  have e : det E.P (do eqGuard .eql t xo yo (.bool a) (.bool b); binOp .eql t (.bool a) (.bool b)) = some (.bool (a == b)) := det_map (fun b => .bool b) (equalIn_bool E h a b)
  simp only [binOpA, e]; rfl
theorem bin_bne (t : TypeId) (xo yo : Operand) (a b : Bool) (h : E.P.underlying t = some .bool) : binOpA E .neq t xo yo (.v (.bool a)) (.v (.bool b)) = .val (.v (.bool (!(a == b)))) := by
  have e : det E.P (do eqGuard .neq t xo yo (.bool a) (.bool b); binOp .neq t (.bool a) (.bool b)) = some (.bool (!(a == b))) := det_map (fun b => .bool (!b)) (equalIn_bool E h a b)
  simp only [binOpA, e]; rfl
theorem bin_pnil (t : TypeId) (xo yo : Operand) {u : TypeId} (h : E.P.underlying t = some (.pointer u)) : binOpA E .eql t xo yo (.v (.pointer none)) (.v (.pointer none)) = .val (.v (.bool true)) := by
  have e : det E.P (do eqGuard .eql t xo yo (.pointer none) (.pointer none); binOp .eql t (.pointer none) (.pointer none)) = some (.bool true) := det_map (fun b => .bool b) (equalIn_ptr E h)
  simp only [binOpA, e]; rfl
theorem bin_snil (t : TypeId) (xo yo : Operand) {u : TypeId} (h : E.P.underlying t = some (.slice u)) : binOpA E .eql t xo yo (.v (.slice none 0 0)) (.v (.slice none 0 0)) = .val (.v (.bool true)) := by
  have e : det E.P (do eqGuard .eql t xo yo (.slice none 0 0) (.slice none 0 0); binOp .eql t (.slice none 0 0) (.slice none 0 0)) = some (.bool true) := det_map (fun b => .bool b) (equalIn_slice E h)
  simp only [binOpA, e]; rfl
theorem bin_pop (t : TypeId) (xo yo : Operand) (n e i j : Nat) : binOpA E .eql t xo yo (.op n e i j) (.v (.pointer none)) = eqPlan E t false (.op n e i j) (.v (.pointer none)) := rfl
theorem bin_pope (t : TypeId) (xo yo : Operand) (n e i j : Nat) : binOpA E .neq t xo yo (.op n e i j) (.v (.pointer none)) = eqPlan E t true (.op n e i j) (.v (.pointer none)) := rfl
theorem bin_pfp (t : TypeId) (xo yo : Operand) (cs : List AV) : binOpA E .eql t xo yo (.fp cs) (.v (.pointer none)) = eqPlan E t false (.fp cs) (.v (.pointer none)) := rfl
theorem bin_pfpe (t : TypeId) (xo yo : Operand) (cs : List AV) : binOpA E .neq t xo yo (.fp cs) (.v (.pointer none)) = eqPlan E t true (.fp cs) (.v (.pointer none)) := rfl
theorem bin_seql (t : TypeId) (xo yo : Operand) (a b : ByteArray) : binOpA E .eql t xo yo (.v (.string a)) (.v (.string b)) = .val (.v (.bool (a.toList == b.toList))) := rfl
theorem bin_sneq (t : TypeId) (xo yo : Operand) (a b : ByteArray) : binOpA E .neq t xo yo (.v (.string a)) (.v (.string b)) = .val (.v (.bool (!(a.toList == b.toList)))) := rfl
theorem bin_eqPlan (t : TypeId) (xo yo : Operand) (xs ys : List AV) : binOpA E .eql t xo yo (.agg xs) (.agg ys) = eqPlan E t false (.agg xs) (.agg ys) := rfl
theorem bin_nePlan (t : TypeId) (xo yo : Operand) (xs ys : List AV) : binOpA E .neq t xo yo (.agg xs) (.agg ys) = eqPlan E t true (.agg xs) (.agg ys) := rfl
theorem eqPlan_agg (t : TypeId) (neg : Bool) (xs ys : List AV) {ks : List EK} (h : E.eqT t = some ks) : eqPlan E t neg (.agg xs) (.agg ys) = .opt ((eqCells ks xs ys).map fun b => .v (.bool (b != neg))) := by simp only [eqPlan, h]
theorem eqCell_i (k : IntKind) (a b : Int) : eqCell .i (.v (.int k a)) (.v (.int k b)) = some (decide (a = b)) := by
  have h : (a == b) = decide (a = b) := by by_cases h : a = b <;> simp [h]
  rw [← h]; simp [eqCell]
theorem eqCell_b (a b : Bool) : eqCell .b (.v (.bool a)) (.v (.bool b)) = some (a == b) := rfl
theorem eqCells_cons (k : EK) (ks : List EK) (x y : AV) (xs ys : List AV) : eqCells (k :: ks) (x :: xs) (y :: ys) = (eqCell k x y).bind fun a => (eqCells ks xs ys).bind fun b => some (a && b) := rfl
theorem eqCells_nil : eqCells [] [] [] = some true := rfl
theorem un_not (b : Bool) : plainV (det E.P (Op.unary .not (.bool b))) = some (.v (.bool (!b))) := rfl
theorem un_neg (k : IntKind) (n : Int) : plainV (det E.P (Op.unary .neg (.int k n))) = some (.v (.int k (k.wrap (0 - n)))) := rfl
theorem convA_int (src dst : TypeId) (k k' : IntKind) (n : Int) (h : (E.P.underlying src).isSome = true) (h' : E.P.underlying dst = some (.int k')) : convA E src dst (.v (.int k n)) = .val (.v (.int k' (k'.wrap n))) := by
  have : det E.P (convert src dst (.int k n)) = some (.int k' (k'.wrap n)) := by
    obtain ⟨u, hu⟩ := Option.isSome_iff_exists.1 h
    unfold convert
    rw [det_underlying hu, det_underlying h']
    cases u <;> rfl
  simp only [convA, this]; rfl
theorem min_int (ats : Array TypeId) (t : TypeId) (k : IntKind) (a b : Int) : builtinA E .min ats t [.v (.int k a), .v (.int k b)] = .val (.v (.int k (min a b))) := by
  have : det E.P (Builtin.min_ ats t #[.int k a, .int k b]) = some (.int k (min a b)) := by
    have h : (if b < a then b else a) = min a b := by split <;> omega
    rw [← h]; rfl
  simp only [builtinA, allPlain, Option.map_some, this]; rfl
theorem max_int (ats : Array TypeId) (t : TypeId) (k : IntKind) (a b : Int) : builtinA E .max ats t [.v (.int k a), .v (.int k b)] = .val (.v (.int k (max a b))) := by
  have : det E.P (Builtin.max_ ats t #[.int k a, .int k b]) = some (.int k (max a b)) := by
    have h : (if a < b then b else a) = max a b := by split <;> omega
    rw [← h]; rfl
  simp only [builtinA, allPlain, Option.map_some, this]; rfl
/-! Slices. x holds the elements es: nil, empty, or frozen. -/
def Sl (sz : Nat) (x : AV) (es : List (List AV)) : Prop := x = .sl sz es ∨ (es = [] ∧ (x = .e0 ∨ x = .v (.slice none 0 0)))
theorem len_sl (t ty : TypeId) (sz : Nat) (es : List (List AV)) (h : isSlT E.P t = true) : builtinA E .len #[t] ty [.sl sz es] = .val (.v (.int .i64 es.length)) := by simp only [builtinA, h]; rfl
theorem len_e0 (t ty : TypeId) (h : isSlT E.P t = true) : builtinA E .len #[t] ty [.e0] = .val (.v (.int .i64 0)) := by simp only [builtinA, h]; rfl
theorem len_nil (t ty : TypeId) (h : isSlT E.P t = true) : builtinA E .len #[t] ty [.v (.slice none 0 0)] = .val (.v (.int .i64 0)) := by simp only [builtinA, h]; rfl
theorem len_str (t ty : TypeId) (s : ByteArray) (h : isStrT E.P t = true) : builtinA E .len #[t] ty [.v (.string s)] = .val (.v (.int .i64 s.size)) := by simp only [builtinA, h]; rfl
theorem len_os (lo : Nat) (H : AHeap) (t ty : TypeId) (n e off len : Nat) (h : isSlT E.P t = true) : primL lo H (builtinA E .len #[t] ty [.os n e off len]) = (H.get n).bind fun b => (sliceElems b e off len).bind fun es => some (.v (.int .i64 es.length), H, ⟨bitsOf [n], 0, 0⟩) := by
  have : builtinA E .len #[t] ty [.os n e off len] = srd (.os n e off len) fun _ es => some (.none (.v (.int .i64 es.length))) := by simp only [builtinA, h]; rfl
  rw [this]; simp only [srd, primL_prim1]
  cases H.get n with
  | none => rfl
  | some b => simp only [Option.bind_some]; cases sliceElems b e off len <;> rfl
theorem len_Sl (lo : Nat) (H : AHeap) (t ty : TypeId) {sz : Nat} {x : AV} {es : List (List AV)} (hx : Sl sz x es) (h : isSlT E.P t = true) : primL lo H (builtinA E .len #[t] ty [x]) = some (.v (.int .i64 es.length), H, ⟨0, 0, 0⟩) := by
  rcases hx with rfl | ⟨rfl, rfl | rfl⟩
  · rw [len_sl E t ty sz es h]; rfl
  · rw [len_e0 E t ty h]; rfl
  · rw [len_nil E t ty h]; rfl
theorem index_Sl (lo : Nat) (H : AHeap) (t : TypeId) {sz : Nat} {x : AV} {es : List (List AV)} (κ : IntKind) (i : Int) (hx : Sl sz x es) (h : slSz E.P t = some sz) : primL lo H (indexAddrA E t x (.v (.int κ i))) = if 0 ≤ i ∧ i < es.length then some (.fp (nth [] es i.toNat), H, ⟨0, 0, 0⟩) else none := by
  rcases hx with rfl | ⟨rfl, rfl | rfl⟩
  · rw [indexAddrA_sl E lo H t sz es κ i h]; simp only [and_true]
  · rw [if_neg (by simp only [List.length_nil]; omega)]
    obtain ⟨e, h1, h2⟩ := slSz_ok h
    have : indexAddrA E t .e0 (.v (.int κ i)) = .bad := by simp only [indexAddrA, h1, h2]
    rw [this]; rfl
  · rw [if_neg (by simp only [List.length_nil]; omega)]
    obtain ⟨e, h1, h2⟩ := slSz_ok h
    have : indexAddrA E t (.v (.slice none 0 0)) (.v (.int κ i)) = .bad := by simp only [indexAddrA, h1, h2]
    rw [this]; rfl
end

/-! Guards. -/
section
variable {o : Oper} {ops : List Oper} {tm : Slots} {j t : Nat} {b c : Bool}
theorem wantT (hg : o.guard = some (j, true)) (hj : (ops[j]?).bind (·.dst) = some t) (ht : tm.get t = .v (.bool b)) : wantedA o ops tm = some b := by
  simp only [wantedA, hg, hj, ht]; cases b <;> rfl
theorem wantF (hg : o.guard = some (j, false)) (hj : (ops[j]?).bind (·.dst) = some t) (ht : tm.get t = .v (.bool b)) : wantedA o ops tm = some (!b) := by
  simp only [wantedA, hg, hj, ht]; cases b <;> rfl
theorem wantTg (hg : o.guard = some (j, true)) (hj : (ops[j]?).bind (·.dst) = some t) (ht : tm.get t = gv c (.v (.bool b))) : wantedA o ops tm = some (c && b) := by
  simp only [wantedA, hg, hj, ht]; cases c <;> cases b <;> rfl
theorem wantFg (hg : o.guard = some (j, false)) (hj : (ops[j]?).bind (·.dst) = some t) (ht : tm.get t = gv c (.v (.bool b))) : wantedA o ops tm = some (c && !b) := by
  simp only [wantedA, hg, hj, ht]; cases c <;> cases b <;> rfl
theorem want0 (hg : o.guard = none) : wantedA o ops tm = some true := by simp only [wantedA, hg]
theorem pick_and (t p : Bool) : (bif t then gv t (.v (.bool p)) else .v (.bool false)) = AV.v (.bool (t && p)) := by cases t <;> rfl
theorem pick_or (t p : Bool) : (bif t then .v (.bool true) else gv (!t) (.v (.bool p))) = AV.v (.bool (t || p)) := by cases t <;> rfl
end

/-! What is handed back, frozen. -/
def flatB : AV → Bool
  | .v _ | .sl _ _ | .e0 | .fp _ => true
  | _ => false
def FlatL (cs : List AV) : Prop := ∀ x ∈ cs, flatB x = true
def FlatE (es : List (List AV)) : Prop := ∀ c ∈ es, FlatL c
theorem FlatE.nil : FlatE [] := fun _ h => by cases h
theorem FlatE.cons {c : List AV} {es : List (List AV)} (hc : FlatL c) (h : FlatE es) : FlatE (c :: es) := fun d hd => by
  rcases List.mem_cons.1 hd with rfl | hd
  · exact hc
  · exact h d hd
theorem FlatE.append {es fs : List (List AV)} (h : FlatE es) (h' : FlatE fs) : FlatE (es ++ fs) := fun c hc => (List.mem_append.1 hc).elim (h c) (h' c)
theorem FlatE.map {α : Type} {f : α → List AV} (hf : ∀ a, FlatL (f a)) (l : List α) : FlatE (l.map f) := fun c hc => by
  obtain ⟨a, _, rfl⟩ := List.mem_map.1 hc
  exact hf a
theorem FlatE.take {es : List (List AV)} (h : FlatE es) (n : Nat) : FlatE (es.take n) := fun c hc => h c (List.mem_of_mem_take hc)
theorem FlatE.drop {es : List (List AV)} (h : FlatE es) (n : Nat) : FlatE (es.drop n) := fun c hc => h c (List.mem_of_mem_drop hc)
def frzC (H : AHeap) (lo : Nat) (x : AV) : AV := renC H lo 0 [] frzDepth x
def frzR1 (H : AHeap) (lo : Nat) (x : AV) : AV := ren1 H lo 0 [] frzDepth x
theorem frz_flat (H : AHeap) (bad : Nat → Bool) (d : Nat) (x : AV) (h : flatB x = true) : frz H bad (d + 1) x = x := by cases x <;> first | rfl | cases h
theorem frz_flatE (H : AHeap) (bad : Nat → Bool) (d : Nat) {es : List (List AV)} (h : FlatE es) : es.map (fun c => c.map (frz H bad (d + 1))) = es := by
  have : ∀ c ∈ es, c.map (frz H bad (d + 1)) = c := fun c hc => by
    conv => rhs; rw [← List.map_id c]
    exact List.map_congr_left fun x hx => frz_flat H bad d x (h c hc x hx)
  conv => rhs; rw [← List.map_id es]
  exact List.map_congr_left fun c hc => this c hc
section
variable (H : AHeap) (lo : Nat)
theorem frzR_v (x : Value) : frzR H lo (.v x) = .v x := rfl
theorem frzR_agg (cs : List AV) : frzR H lo (.agg cs) = .agg (cs.map (frzC H lo)) := rfl
theorem frzR_tup (cs : List AV) : frzR H lo (.tup cs) = .tup (cs.map (frzR1 H lo)) := rfl
theorem frzR1_v (x : Value) : frzR1 H lo (.v x) = .v x := rfl
theorem frzR1_agg (cs : List AV) : frzR1 H lo (.agg cs) = .agg (cs.map (frzC H lo)) := rfl
theorem frzC_v (x : Value) : frzC H lo (.v x) = .v x := rfl
theorem frzC_sl (sz : Nat) (es : List (List AV)) : frzC H lo (.sl sz es) = .sl sz es := rfl
theorem frzC_e0 : frzC H lo .e0 = .e0 := rfl
theorem frz_os {bad : Nat → Bool} {d n e off len : Nat} {b : Blk} (h2 : bad n = false) (hb : H.get n = some b) (he : b.ep = e) (hi : b.it = none) (ho : off + len ≤ b.es.length) (hz : 0 < b.sz) (hf : FlatE b.es) : frz H bad (d + 1 + 1) (.os n e off len) = .sl b.sz ((b.es.drop off).take len) := by
  show (if bad n then AV.dead else match H.get n with
      | some b => if b.ep = e ∧ b.it.isNone ∧ off + len ≤ b.es.length ∧ 0 < b.sz then .sl b.sz (((b.es.drop off).take len).map fun c => c.map (frz H bad (d + 1))) else .dead
      | none => .dead) = _
  rw [h2, if_neg (by decide), hb]
  show (if b.ep = e ∧ b.it.isNone = true ∧ off + len ≤ b.es.length ∧ 0 < b.sz then _ else _) = _
  rw [if_pos ⟨he, by rw [hi]; rfl, ho, hz⟩, frz_flatE H bad d ((hf.drop off).take len)]
theorem frzC_os {n e off len : Nat} {b : Blk} (hl : lo ≤ n) (hb : H.get n = some b) (he : b.ep = e) (hi : b.it = none) (ho : off + len ≤ b.es.length) (hz : 0 < b.sz) (hf : FlatE b.es) : frzC H lo (.os n e off len) = .sl b.sz ((b.es.drop off).take len) := by
  have h1 : ¬ n < lo := by omega
  have h2 : badN lo [] n = false := by
    have : Nat.blt n lo = false := by rw [← Bool.not_eq_true, Nat.blt_eq]; exact h1
    simp [badN, this]
  show (if n < lo then AV.os n e off len else frz H (badN lo []) frzDepth (.os n e off len)) = _
  rw [if_neg h1]
  exact frz_os (d := 10) H h2 hb he hi ho hz hf
theorem frzR_os {n e off len : Nat} {b : Blk} (hl : lo ≤ n) (hb : H.get n = some b) (he : b.ep = e) (hi : b.it = none) (ho : off + len ≤ b.es.length) (hz : 0 < b.sz) (hf : FlatE b.es) : frzR H lo (.os n e off len) = .sl b.sz ((b.es.drop off).take len) := frzC_os H lo hl hb he hi ho hz hf
theorem frzR1_os {n e off len : Nat} {b : Blk} (hl : lo ≤ n) (hb : H.get n = some b) (he : b.ep = e) (hi : b.it = none) (ho : off + len ≤ b.es.length) (hz : 0 < b.sz) (hf : FlatE b.es) : frzR1 H lo (.os n e off len) = .sl b.sz ((b.es.drop off).take len) := frzC_os H lo hl hb he hi ho hz hf
end

/-! Results. -/
section
variable {P : Program} {fn : Func} {s : St}
theorem res0 (h : fn.results = #[]) : resultsA P fn s = some (.tup []) := by simp [resultsA, h]
theorem res1 {t : Tmp} (h : fn.results = #[.tmp t]) : resultsA P fn s = some (s.tm.get t) := by simp [resultsA, h]
theorem res2 {t u : Tmp} (h : fn.results = #[.tmp t, .tmp u]) : resultsA P fn s = some (.tup [s.tm.get t, s.tm.get u]) := by simp [resultsA, h]
def cellR (P : Program) (H : AHeap) (t : TypeId) (a : AV) : Option AV := match a with
  | .op n e i j => (H.get n).bind fun b => if b.ep = e ∧ b.it.isNone = true ∧ i < b.es.length ∧ j ≤ b.sz then partA P t ((nth [] b.es i).drop j) else none
  | _ => none
theorem cellR_op (P : Program) (H : AHeap) (t : TypeId) (n e i j : Nat) : cellR P H t (.op n e i j) = (H.get n).bind fun b => if b.ep = e ∧ b.it.isNone = true ∧ i < b.es.length ∧ j ≤ b.sz then partA P t ((nth [] b.es i).drop j) else none := rfl
theorem resc {a t : Nat} (h : fn.results = #[.cell a t]) : resultsA P fn s = cellR P s.H t (s.tm.get a) := by
  have e : resultsA P fn s = (cellR P s.H t (s.tm.get a)).bind fun x => some x := by
    unfold resultsA
    rw [h]
    simp only [cellR, nth_getD, List.mapM_cons, List.mapM_nil]
    cases s.tm.get a with
    | op n e i j =>
      dsimp only
      cases s.H.get n with
      | none => rfl
      | some b =>
        simp only [bind, Option.bind_some]
        split
        · cases partA P t (List.drop j (b.es.getD i [])) <;> rfl
        · rfl
    | _ => rfl
  rw [e]; cases cellR P s.H t (s.tm.get a) <;> rfl
theorem resct {a t u : Nat} (h : fn.results = #[.cell a t, .tmp u]) : resultsA P fn s = (cellR P s.H t (s.tm.get a)).bind fun x => some (.tup [x, s.tm.get u]) := by
  unfold resultsA
  rw [h]
  simp only [cellR, nth_getD, List.mapM_cons, List.mapM_nil]
  cases s.tm.get a with
  | op n e i j =>
    dsimp only
    cases s.H.get n with
    | none => rfl
    | some b =>
      simp only [bind, Option.bind_some]
      split
      · cases partA P t (List.drop j (b.es.getD i [])) <;> rfl
      · rfl
  | _ => rfl
end
end Go.Am

namespace Go.Am

def set2 (c : List (List AV)) (t : Nat) (x : AV) : List (List AV) := c.set (t / 8) ((nth [] c (t / 8)).set (t % 8) x)
def putMany (c : List (List AV)) : List Nat → Nat → List AV → List (List AV)
  | [], _, _ => c
  | t :: W, j, xs => putMany (set2 c t (nth .dead xs j)) W (j + 1) xs
def readMany (c : List (List AV)) : List Nat → List AV
  | [] => []
  | t :: W => nth (.tup []) (nth [] c (t / 8)) (t % 8) :: readMany c W

structure LoopS (n : Nat) (W : List Nat) (cf : List AV → List (List AV)) (P : Nat → List AV → AHeap → Prop) (m : Nat) (Q : AX → St → Prop) (x : AX) (s : St) : Prop where
  q : match x with
  | .normal => ∃ m' xs, m' < m ∧ s.tm = ⟨n, cf xs⟩ ∧ P m' xs s.H
  | x => Q x s
section
variable {E : Env} {rd : Bool} {ys : List (Nat × LRec)} {lo : Nat} {n : Nat} {W : List Nat} {cf : List AV → List (List AV)} {P : Nat → List AV → AHeap → Prop} {m : Nat} {Q : AX → St → Prop} {s : St}
theorem LoopS.again (m' : Nat) {c1 : List (List AV)} {H1 : AHeap} (hx : cf (readMany c1 W) = c1) (hm : m' < m) (h : P m' (readMany c1 W) H1) : LoopS n W cf P m Q .normal ⟨⟨n, c1⟩, H1⟩ := ⟨m', _, hm, by rw [hx], h⟩
theorem LoopS.ret (h : Q .ret s) : LoopS n W cf P m Q .ret s := ⟨h⟩
theorem LoopS.exit {id : Nat} (h : Q (.exit id) s) : LoopS n W cf P m Q (.exit id) s := ⟨h⟩
/-- A loop, by what it changes: the slots W, and the heap. -/
theorem V.lpS {c0 : List (List AV)} {H0 : AHeap} {c : Code} (W : List Nat) (P : Nat → List AV → AHeap → Prop) (m : Nat) (hcf : ∀ xs, putMany c0 W 0 xs = cf xs) (hx0 : cf (readMany c0 W) = c0) (h0 : P m (readMany c0 W) H0)
    (hr : ∀ m xs H, P m xs H → V E rd ys lo c ⟨⟨n, cf xs⟩, H⟩ (LoopS n W cf P m Q)) : V E rd ys lo (.loop c) ⟨⟨n, c0⟩, H0⟩ Q := by
  refine V.lp (fun m s => ∃ xs, s.tm = ⟨n, cf xs⟩ ∧ P m xs s.H) m ⟨_, by rw [hx0], h0⟩ ?_
  rintro m ⟨tm, H⟩ ⟨xs, rfl, h⟩
  refine (hr m xs H h).mono fun x s hq => ⟨?_⟩
  have := hq.q
  cases x with
  | normal => obtain ⟨m', xs, h1, h2, h3⟩ := this; exact ⟨m', h1, xs, h2, h3⟩
  | ret => exact this
  | exit id => exact this
end

/-- The same, where the heap stays. -/
structure LoopF (n : Nat) (W : List Nat) (cf : List AV → List (List AV)) (H0 : AHeap) (P : Nat → List AV → Prop) (m : Nat) (Q : AX → St → Prop) (x : AX) (s : St) : Prop where
  q : match x with
  | .normal => ∃ m' xs, m' < m ∧ s = ⟨⟨n, cf xs⟩, H0⟩ ∧ P m' xs
  | x => Q x s
section
variable {E : Env} {rd : Bool} {ys : List (Nat × LRec)} {lo : Nat} {n : Nat} {W : List Nat} {cf : List AV → List (List AV)} {H0 : AHeap} {P : Nat → List AV → Prop} {m : Nat} {Q : AX → St → Prop} {s : St}
theorem LoopF.again (m' : Nat) {c1 : List (List AV)} (hx : cf (readMany c1 W) = c1) (hm : m' < m) (h : P m' (readMany c1 W)) : LoopF n W cf H0 P m Q .normal ⟨⟨n, c1⟩, H0⟩ := ⟨m', _, hm, by rw [hx], h⟩
theorem LoopF.ret (h : Q .ret s) : LoopF n W cf H0 P m Q .ret s := ⟨h⟩
theorem LoopF.exit {id : Nat} (h : Q (.exit id) s) : LoopF n W cf H0 P m Q (.exit id) s := ⟨h⟩
theorem V.lpF {c0 : List (List AV)} {c : Code} (W : List Nat) (P : Nat → List AV → Prop) (m : Nat) (hcf : ∀ xs, putMany c0 W 0 xs = cf xs) (hx0 : cf (readMany c0 W) = c0) (h0 : P m (readMany c0 W))
    (hr : ∀ m xs, P m xs → V E rd ys lo c ⟨⟨n, cf xs⟩, H0⟩ (LoopF n W cf H0 P m Q)) : V E rd ys lo (.loop c) ⟨⟨n, c0⟩, H0⟩ Q := by
  refine V.lp (fun m s => ∃ xs, s = ⟨⟨n, cf xs⟩, H0⟩ ∧ P m xs) m ⟨_, by rw [hx0], h0⟩ ?_
  rintro m s ⟨xs, rfl, h⟩
  refine (hr m xs h).mono fun x s hq => ⟨?_⟩
  have := hq.q
  cases x with
  | normal => obtain ⟨m', xs, h1, h2, h3⟩ := this; exact ⟨m', h1, xs, h2, h3⟩
  | ret => exact this
  | exit id => exact this
end
theorem ite_ok {α : Type} {c : Prop} [Decidable c] {a b : α} {x : Option α} (h : c) (hab : some a = x) : (if c then some a else none) = x := by rw [if_pos h]; exact hab
/-! Read-only traces. -/
def RoT (t : Tr) : Prop := t.wr = 0 ∧ (t.all = 0 ∨ t.all = 1)
theorem clash_ro {x y : Tr} (hx : RoT x) (hy : RoT y) : clash x y = false := by
  obtain ⟨a, b, c⟩ := x
  obtain ⟨d, e, f⟩ := y
  obtain ⟨h1, h2⟩ := hx
  obtain ⟨h3, h4⟩ := hy
  simp only at h1 h2 h3 h4
  subst h1 h3
  have z : ∀ n : Nat, Nat.land 0 n = 0 := fun n => Nat.zero_and n
  rcases h2 with rfl | rfl <;> rcases h4 with rfl | rfl <;> simp [clash, z] <;> decide
theorem RoT.zero : RoT ⟨0, 0, 0⟩ := ⟨rfl, .inl rfl⟩
theorem RoT.rd {m : Nat} : RoT ⟨m, 0, 0⟩ := ⟨rfl, .inl rfl⟩
theorem RoT.all {m : Nat} : RoT ⟨m, 0, 1⟩ := ⟨rfl, .inr rfl⟩

/-- Which operations only read. -/
inductive Kinds : List Tr → List Bool → Prop
  | nil : Kinds [] []
  | ro {t : Tr} {T : List Tr} {K : List Bool} : RoT t → Kinds T K → Kinds (t :: T) (true :: K)
  | any {t : Tr} {T : List Tr} {K : List Bool} : Kinds T K → Kinds (t :: T) (false :: K)
def okK : List Nat → List Bool → Nat → List (Nat × Bool) → Bool
  | _, [], _, _ => true
  | [], _ :: _, _, _ => false
  | a :: as, k :: ks, i, pre => (pre.all fun p => bit a p.1 || (p.2 && k)) && okK as ks (i + 1) ((i, k) :: pre)
theorem okPairs_kinds' {T : List Tr} {K : List Bool} (h : Kinds T K) : ∀ (as : List Nat) (i : Nat) (pre : List (Nat × Tr)) (preK : List (Nat × Bool)), okK as K i preK = true →
    (∀ p ∈ pre, ∃ k, (p.1, k) ∈ preK ∧ (k = true → RoT p.2)) → okPairs as T i pre = true := by
  have step : ∀ (t : Tr) (k : Bool) (hk : k = true → RoT t) (T : List Tr) (K : List Bool), (∀ (as : List Nat) (i : Nat) (pre : List (Nat × Tr)) (preK : List (Nat × Bool)), okK as K i preK = true →
      (∀ p ∈ pre, ∃ k, (p.1, k) ∈ preK ∧ (k = true → RoT p.2)) → okPairs as T i pre = true) → ∀ (as : List Nat) (i : Nat) (pre : List (Nat × Tr)) (preK : List (Nat × Bool)), okK as (k :: K) i preK = true →
      (∀ p ∈ pre, ∃ k, (p.1, k) ∈ preK ∧ (k = true → RoT p.2)) → okPairs as (t :: T) i pre = true := by
    intro t k hk T K ih as i pre preK h hp
    cases as with
    | nil => simp [okK] at h
    | cons a as =>
      simp only [okK, Bool.and_eq_true] at h
      simp only [okPairs, fNat_eq]
      split
      · exact ih as _ _ _ h.2 fun p hpm => by
          obtain ⟨k', h1, h2⟩ := hp p hpm
          exact ⟨k', List.mem_cons_of_mem _ h1, h2⟩
      · have : (pre.all fun p => bit a p.1 || !clash p.2 t) = true := List.all_eq_true.2 fun p hpm => by
          obtain ⟨k', h1, h2⟩ := hp p hpm
          have h3 := List.all_eq_true.1 h.1 _ h1
          simp only [Bool.or_eq_true, Bool.and_eq_true] at h3
          rcases h3 with h3 | ⟨h3, h4⟩
          · rw [h3]; rfl
          · rw [clash_ro (h2 h3) (hk h4)]; simp
        rw [this]
        exact ih as _ _ _ h.2 fun p hpm => by
          rcases List.mem_cons.1 hpm with rfl | hpm
          · exact ⟨k, List.mem_cons_self, hk⟩
          · obtain ⟨k', h1, h2⟩ := hp p hpm
            exact ⟨k', List.mem_cons_of_mem _ h1, h2⟩
  induction h with
  | nil => intros; simp [okPairs]
  | @ro t T K ht _ ih => exact step t true (fun _ => ht) T K ih
  | @any t T K _ ih => exact step t false (fun h => by cases h) T K ih
theorem okPairs_kinds {T : List Tr} {K : List Bool} {as : List Nat} (h : Kinds T K) (hk : okK as K 0 [] = true) : okPairs as T 0 [] = true := okPairs_kinds' h as 0 [] [] hk fun p hp => by cases hp

/-! Slices that are read: frozen, nil, or owned. -/
def SlH (H : AHeap) (sz : Nat) (x : AV) (es : List (List AV)) : Prop :=
  Sl sz x es ∨ ∃ n e off b, x = .os n e off es.length ∧ n < H.next ∧ H.get n = some b ∧ b.ep = e ∧ b.it = none ∧ b.sz = sz ∧ off + es.length ≤ b.es.length ∧ (b.es.drop off).take es.length = es
def rdTr (x : AV) : Tr := match x with
  | .os n _ _ _ => ⟨bitsOf [n], 0, 0⟩
  | _ => ⟨0, 0, 0⟩
theorem RoT.rdTr (x : AV) : RoT (rdTr x) := by cases x <;> exact ⟨rfl, .inl rfl⟩
theorem SlH.sl {H : AHeap} {sz : Nat} {x : AV} {es : List (List AV)} (h : Sl sz x es) : SlH H sz x es := .inl h
theorem SlH.push {H : AHeap} {sz : Nat} {x : AV} {es : List (List AV)} (h : SlH H sz x es) (b : Blk) : SlH (H.push b) sz x es := by
  rcases h with h | ⟨n, e, off, b', h1, h2, h3, h4⟩
  · exact .inl h
  · exact .inr ⟨n, e, off, b', h1, Nat.lt_succ_of_lt h2, by rw [get_push, if_neg (by omega)]; exact h3, h4⟩
theorem SlH.set {H : AHeap} {sz : Nat} {x : AV} {es : List (List AV)} (h : SlH H sz x es) (m : Nat) (b : Blk) (hm : ∀ n e off len, x = .os n e off len → m ≠ n) : SlH (H.set m b) sz x es := by
  rcases h with h | ⟨n, e, off, b', h1, h2, h3, h4⟩
  · exact .inl h
  · exact .inr ⟨n, e, off, b', h1, h2, by rw [get_set, if_neg (hm _ _ _ _ h1)]; exact h3, h4⟩
section
variable (E : Env) (lo : Nat) {H : AHeap} {sz : Nat} {x : AV} {es : List (List AV)}
theorem len_SlH (t ty : TypeId) (hx : SlH H sz x es) (h : isSlT E.P t = true) : primL lo H (builtinA E .len #[t] ty [x]) = some (.v (.int .i64 es.length), H, rdTr x) := by
  rcases hx with hx | ⟨n, e, off, b, rfl, _, hb, he, hi, hs, ho, ht⟩
  · rw [len_Sl E lo H t ty hx h]
    rcases hx with rfl | ⟨rfl, rfl | rfl⟩ <;> rfl
  · rw [len_os E lo H t ty n e off es.length h, hb]
    have hit : b.it.isNone = true := by rw [hi]; rfl
    simp only [Option.bind_some, sliceElems]
    rw [if_pos ⟨he, ho, hit⟩, Option.bind_some, ht]; rfl
/-- What an element's address is. -/
def ixA (x : AV) (es : List (List AV)) (i : Nat) : AV := match x with
  | .os n e off _ => .op n e (off + i) 0
  | _ => .fp (nth [] es i)
theorem index_SlH (t : TypeId) (κ : IntKind) (i : Int) (hx : SlH H sz x es) (h : slSz E.P t = some sz) (h0 : 0 ≤ i) (h1 : i < es.length) : primL lo H (indexAddrA E t x (.v (.int κ i))) = some (ixA x es i.toNat, H, rdTr x) := by
  rcases hx with hx | ⟨n, e, off, b, rfl, _, hb, he, hi, hs, ho, ht⟩
  · rw [index_Sl E lo H t κ i hx h, if_pos ⟨h0, h1⟩]
    rcases hx with rfl | ⟨rfl, rfl | rfl⟩ <;> rfl
  · rw [indexAddrA_os E lo H t n e off es.length κ i h, hb]
    simp only [Option.bind_some]
    rw [if_pos ⟨he, by rw [hi]; rfl, ho, hs, h0, by exact_mod_cast h1⟩]; rfl
theorem nth_take_drop {α : Type} (d : α) (l es : List α) (off i : Nat) (ht : (l.drop off).take es.length = es) (hi : i < es.length) : nth d l (off + i) = nth d es i := by
  rw [nth_getD, nth_getD]
  conv => rhs; rw [← ht]
  rw [List.getD_eq_getElem?_getD, List.getD_eq_getElem?_getD, List.getElem?_take_of_lt hi, List.getElem?_drop]
theorem load_SlH (t : TypeId) (i : Nat) (hx : SlH H sz x es) (h1 : i < es.length) : primL lo H (loadA E t (ixA x es i)) = (partA E.P t (nth [] es i)).map fun y => (y, H, rdTr x) := by
  rcases hx with hx | ⟨n, e, off, b, rfl, _, hb, he, hi, hs, ho, ht⟩
  · have : ixA x es i = .fp (nth [] es i) := by rcases hx with rfl | ⟨rfl, rfl | rfl⟩ <;> rfl
    have hr : rdTr x = ⟨0, 0, 0⟩ := by rcases hx with rfl | ⟨rfl, rfl | rfl⟩ <;> rfl
    rw [this, loadA_fp, hr]
    cases partA E.P t (nth [] es i) <;> rfl
  · show primL lo H (loadA E t (.op n e (off + i) 0)) = _
    rw [loadA_op, hb]
    simp only [Option.bind_some, List.drop_zero]
    rw [if_pos ⟨he, by rw [hi]; rfl, by omega, Nat.zero_le _⟩, nth_take_drop [] b.es es off i ht h1]; rfl
theorem nf_SlH_empty (hx : SlH H sz x es) (hn : nf x = true) : SlH .empty sz x es := by
  rcases hx with hx | ⟨n, e, off, b, rfl, _⟩
  · exact .inl hx
  · cases hn
end

/-! Appending, cutting. -/
def appInfo (P : Program) (t : TypeId) : Option (TypeId × Nat × Nat) := match P.underlying t with
  | some (.slice elem) => match infoBytes P elem, infoSize P elem, zeroCells P elem with
    | some bytes, some size, some z => if size = 0 ∨ bytes = 0 ∨ z.length ≠ size then none else some (elem, bytes, size)
    | _, _, _ => none
  | _ => none
theorem appInfo_ok {P : Program} {t elem bytes size : Nat} (h : appInfo P t = some (elem, bytes, size)) : ∃ z, P.underlying t = some (.slice elem) ∧ infoBytes P elem = some bytes ∧ infoSize P elem = some size ∧ zeroCells P elem = some z ∧ ¬ (size = 0 ∨ bytes = 0 ∨ z.length ≠ size) := by
  unfold appInfo at h
  split at h
  · rename_i e h1
    split at h
    · rename_i b s z h2 h3 h4
      split at h
      · cases h
      · rename_i hn
        simp only [Option.some.injEq, Prod.mk.injEq] at h
        obtain ⟨rfl, rfl, rfl⟩ := h
        exact ⟨z, h1, h2, h3, h4, hn⟩
    · cases h
  · cases h
section
variable (E : Env) (lo : Nat) {H : AHeap} {x : AV} {es : List (List AV)} {t elem bytes size : Nat}
theorem builtin_append (t ty : TypeId) (s x : AV) : builtinA E .append #[t, t] ty [s, x] = appendA E t s x := by simp [builtinA]
/-- s: nil or empty. -/
theorem append_new {s : AV} (hs : s = .e0 ∨ s = .v (.slice none 0 0)) (h : appInfo E.P t = some (elem, bytes, size)) (hx : SlH H size x es) (h0 : es ≠ []) (hr : es.length * bytes ≤ roomMax) : primL lo H (appendA E t s x) = some (.os H.next 0 0 es.length, H.push ⟨elem, size, 0, es, none⟩, ⟨(rdTr x).rd, 2 ^ H.next, 0⟩) := by
  obtain ⟨z, h1, h2, h3, h4, h5⟩ := appInfo_ok h
  have he : es.isEmpty = false := by cases es with | nil => exact absurd rfl h0 | cons => rfl
  have e : appendA E t s x = srd x fun sz new => if new.isEmpty then some (.none s) else if new.length * bytes ≤ roomMax ∧ sz = size then some (.new { elem, sz := size, ep := 0, es := new } fun n => .os n 0 0 new.length) else none := by
    rcases hs with rfl | rfl <;> simp only [appendA, h1, h2, h3, h4, if_neg h5]
  rw [e]
  rcases hx with (rfl | ⟨rfl, _⟩) | ⟨n, e, off, b, rfl, _, hb, he', hi, hsz, ho, ht⟩
  · simp only [srd, primL_prim0, he, Bool.false_eq_true, if_false]
    rw [if_pos ⟨hr, trivial⟩]; rfl
  · exact absurd rfl h0
  · have hit : b.it.isNone = true := by rw [hi]; rfl
    simp only [srd, primL_prim1, hb, Option.bind_some, sliceElems]
    rw [if_pos ⟨he', ho, hit⟩, Option.bind_some, ht, he, hsz]
    simp only [Bool.false_eq_true, if_false]
    rw [if_pos ⟨hr, trivial⟩]; rfl
theorem append_new0 {s : AV} (hs : s = .e0 ∨ s = .v (.slice none 0 0)) (h : appInfo E.P t = some (elem, bytes, size)) (hx : SlH H size x []) : primL lo H (appendA E t s x) = some (s, H, rdTr x) := by
  obtain ⟨z, h1, h2, h3, h4, h5⟩ := appInfo_ok h
  have e : appendA E t s x = srd x fun sz new => if new.isEmpty then some (.none s) else if new.length * bytes ≤ roomMax ∧ sz = size then some (.new { elem, sz := size, ep := 0, es := new } fun n => .os n 0 0 new.length) else none := by
    rcases hs with rfl | rfl <;> simp only [appendA, h1, h2, h3, h4, if_neg h5]
  rw [e]
  rcases hx with (rfl | ⟨_, rfl | rfl⟩) | ⟨n, e, off, b, rfl, _, hb, he', hi, hsz, ho, ht⟩
  · rfl
  · rfl
  · rfl
  · have hit : b.it.isNone = true := by rw [hi]; rfl
    simp only [srd, primL_prim1, hb, Option.bind_some, sliceElems]
    rw [if_pos ⟨he', ho, hit⟩, Option.bind_some, ht]; rfl
/-- s: owned. -/
theorem append_os {n e off len : Nat} {b : Blk} (h : appInfo E.P t = some (elem, bytes, size)) (hb : H.get n = some b) (hbe : b.ep = e ∧ b.it = none ∧ off + len ≤ b.es.length ∧ b.sz = size ∧ b.elem = elem) (hx : SlH H size x es) (hn : ∀ m e off len, x = .os m e off len → n ≠ m) (h0 : es ≠ []) (hr : (len + es.length) * bytes ≤ roomMax) (hlo : lo ≤ n) :
    ∃ tr, primL lo H (appendA E t (.os n e off len) x) = some (.os n (e + 1) 0 (len + es.length), H.set n ⟨elem, size, e + 1, (b.es.drop off).take len ++ es, none⟩, tr) := by
  obtain ⟨z, h1, h2, h3, h4, h5⟩ := appInfo_ok h
  obtain ⟨g1, g2, g3, g4, g5⟩ := hbe
  have he : es.isEmpty = false := by cases es with | nil => exact absurd rfl h0 | cons => rfl
  have hit : b.it.isNone = true := by rw [g2]; rfl
  obtain ⟨belem, bsz, bep, bes, bit⟩ := b
  simp only at g1 g2 g3 g4 g5
  subst g1 g2 g4 g5
  rcases hx with (rfl | ⟨rfl, _⟩) | ⟨m, e', off', c, rfl, _, hc, he', hi, hsz, ho, ht⟩
  · refine ⟨⟨bitsOf [n], 2 ^ n, 0⟩, ?_⟩
    simp only [appendA, h1, h2, h3, h4, if_neg h5, primL_prim1, hb, Option.bind_some]
    rw [if_pos (by exact ⟨trivial, hit, g3, trivial, trivial⟩), he]
    simp only [Bool.false_eq_true, if_false]
    rw [if_pos ⟨hr, trivial⟩]
    simp only [Option.bind_some, effL_set, if_pos hlo]
  · exact absurd rfl h0
  · have hit' : c.it.isNone = true := by rw [hi]; rfl
    refine ⟨⟨bitsOf [n, m], 2 ^ n, 0⟩, ?_⟩
    simp only [appendA, h1, h2, h3, h4, if_neg h5, primL_prim2, hb, hc, Option.bind_some, if_neg (hn _ _ _ _ rfl), sliceElems]
    rw [if_pos ⟨he', ho, hit'⟩, Option.bind_some, ht, if_pos (by exact ⟨trivial, hit, g3, trivial, trivial⟩), he]
    simp only [Bool.false_eq_true, if_false]
    rw [if_pos ⟨hr, hsz⟩]
    simp only [Option.bind_some, effL_set', if_pos hlo]
/-- Whatever s is: nothing is appended. -/
theorem append_os0 {n e off len : Nat} {b : Blk} (h : appInfo E.P t = some (elem, bytes, size)) (hb : H.get n = some b) (hbe : b.ep = e ∧ b.it = none ∧ off + len ≤ b.es.length ∧ b.sz = size ∧ b.elem = elem) (hx : SlH H size x []) (hn : ∀ m e off len, x = .os m e off len → n ≠ m) :
    ∃ tr, RoT tr ∧ primL lo H (appendA E t (.os n e off len) x) = some (.os n e off len, H, tr) := by
  obtain ⟨z, h1, h2, h3, h4, h5⟩ := appInfo_ok h
  obtain ⟨g1, g2, g3, g4, g5⟩ := hbe
  have hit : b.it.isNone = true := by rw [g2]; rfl
  rcases hx with (rfl | ⟨_, rfl | rfl⟩) | ⟨m, e', off', c, rfl, _, hc, he', hi, hsz, ho, ht⟩
  · refine ⟨⟨bitsOf [n], 0, 0⟩, RoT.rd, ?_⟩
    · simp only [appendA, h1, h2, h3, h4, if_neg h5, primL_prim1, hb, Option.bind_some]
      rw [if_pos ⟨g1, hit, g3, g4, g5⟩]; rfl
  · refine ⟨⟨bitsOf [n], 0, 0⟩, RoT.rd, ?_⟩
    · simp only [appendA, h1, h2, h3, h4, if_neg h5, primL_prim1, hb, Option.bind_some]
      rw [if_pos ⟨g1, hit, g3, g4, g5⟩]; rfl
  · refine ⟨⟨bitsOf [n], 0, 0⟩, RoT.rd, ?_⟩
    · simp only [appendA, h1, h2, h3, h4, if_neg h5, primL_prim1, hb, Option.bind_some]
      rw [if_pos ⟨g1, hit, g3, g4, g5⟩]; rfl
  · have hit' : c.it.isNone = true := by rw [hi]; rfl
    refine ⟨⟨bitsOf [n, m], 0, 0⟩, RoT.rd, ?_⟩
    · simp only [appendA, h1, h2, h3, h4, if_neg h5, primL_prim2, hb, hc, Option.bind_some, if_neg (hn _ _ _ _ rfl), sliceElems]
      rw [if_pos ⟨he', ho, hit'⟩, Option.bind_some, ht, if_pos ⟨g1, hit, g3, g4, g5⟩]; rfl
/-- A frozen slice, cut. -/
def cutA (x : AV) (lo hi : Nat) : AV := match x with
  | .sl sz es => .sl sz ((es.drop lo).take (hi - lo))
  | .os n e off _ => .os n e (off + lo) (hi - lo)
  | x => x
theorem cutA_SlH {sz lo hi : Nat} (hx : SlH H sz x es) (h1 : lo ≤ hi) (h2 : hi ≤ es.length) : SlH H sz (cutA x lo hi) ((es.drop lo).take (hi - lo)) := by
  rcases hx with (rfl | ⟨rfl, rfl | rfl⟩) | ⟨m, e', off', c, rfl, hl, hc, he', hi', hsz, ho, ht⟩
  · exact .inl (.inl rfl)
  · exact .inl (.inr ⟨by simp, .inl rfl⟩)
  · exact .inl (.inr ⟨by simp, .inr rfl⟩)
  · have hlen : ((es.drop lo).take (hi - lo)).length = hi - lo := by simp; omega
    refine .inr ⟨m, e', off' + lo, c, by rw [hlen]; rfl, hl, hc, he', hi', hsz, by rw [hlen]; omega, ?_⟩
    rw [hlen]
    conv => rhs; rw [← ht]
    rw [List.drop_take, List.take_take, List.drop_drop, Nat.min_eq_left (by omega)]
theorem cutA_Sl {sz lo hi : Nat} (hx : Sl sz x es) : Sl sz (cutA x lo hi) ((es.drop lo).take (hi - lo)) := by
  rcases hx with rfl | ⟨rfl, rfl | rfl⟩
  · exact .inl rfl
  · exact .inr ⟨by simp, .inl rfl⟩
  · exact .inr ⟨by simp, .inr rfl⟩
end
theorem bound_none (d : Nat) : bound? none d = some d := rfl
theorem bound_some (κ : IntKind) (i : Int) (d : Nat) (h : 0 ≤ i) : bound? (some (.v (.int κ i))) d = some i.toNat := by simp only [bound?, if_pos h]
theorem slice_SlH (E : Env) (lo : Nat) {H : AHeap} {x : AV} {es : List (List AV)} {t size : Nat} (h : slSz E.P t = some size) (hx : SlH H size x es) (a b : Option AV) {l r : Nat} (ha : bound? a 0 = some l) (hb : bound? b es.length = some r) (h1 : l ≤ r) (h2 : r ≤ es.length) : primL lo H (sliceA E t x a b none) = some (cutA x l r, H, rdTr x) := by
  obtain ⟨e, h3, h4⟩ := slSz_ok h
  rcases hx with (rfl | ⟨rfl, rfl | rfl⟩) | ⟨n, e', off, c, rfl, _, hc, he, hi, hsz, ho, ht⟩
  · simp only [sliceA, h3, h4, ha, hb]
    rw [if_pos (by exact ⟨h1, h2, trivial⟩)]; rfl
  · have hr : r = 0 := by simpa using h2
    subst hr
    have hl : l = 0 := by omega
    subst hl
    simp only [sliceA, h3, h4, ha]
    have : bound? b 0 = some 0 := hb
    rw [this]; rfl
  · have hr : r = 0 := by simpa using h2
    subst hr
    have hl : l = 0 := by omega
    subst hl
    simp only [sliceA, h3, h4, ha]
    have : bound? b 0 = some 0 := hb
    rw [this]; rfl
  · have hit : c.it.isNone = true := by rw [hi]; rfl
    simp only [sliceA, h3, h4, ha, hb, primL_prim1, hc, Option.bind_some]
    rw [if_pos ⟨he, hit, h1, by omega, hsz, ho⟩]; rfl

theorem conv_osM (E : Env) (lo : Nat) (H : AHeap) (src dst : TypeId) (n e off len : Nat) : primL lo H (convA E src dst (.os n e off len)) = match E.P.underlying src with
    | some (.slice el) => if (isStrT E.P dst && isU8T E.P el) = true then (H.get n).bind fun b => (sliceElems b e off len).bind fun es => (numsOf .u8 es).bind fun l => some (.v (.string (strOfNums l)), H, ⟨bitsOf [n], 0, 0⟩) else none
    | _ => none := by
  simp only [convA]
  cases E.P.underlying src with
  | none => rfl
  | some u =>
    cases u with
    | slice el =>
      dsimp only
      split
      · simp only [srd, primL_prim1]
        cases H.get n with
        | none => rfl
        | some b =>
          simp only [Option.bind_some]
          cases sliceElems b e off len with
          | none => rfl
          | some es => simp only [Option.bind_some]; cases numsOf .u8 es <;> rfl
      · rfl
    | _ => rfl
theorem numsOf_nil (k : IntKind) : numsOf k [] = some [] := rfl
theorem numsOf_cons (n : Int) (r : List (List AV)) : numsOf .u8 ([.v (.int .u8 n)] :: r) = (numsOf .u8 r).map (n :: ·) := rfl
theorem FnQ.retB {E : Env} {fn : Func} {s : St} {K : AV → AHeap → Prop} {x : Option AV} {r : AV} (hr : resultsA E.P fn s = x) (he : x = some r) (h : K r s.H) : FnQ E fn K .ret s := ⟨r, by rw [hr, he], h⟩
theorem wantU {o : Oper} {ops : List Oper} {tm : Slots} {j t : Nat} {want : Bool} (hg : o.guard = some (j, want)) (hj : (ops[j]?).bind (·.dst) = some t) (ht : tm.get t = .tup []) : wantedA o ops tm = some false := by
  simp only [wantedA, hg, hj, ht]
theorem wantNo {o : Oper} {ops : List Oper} {tm : Slots} {b : Bool} (h : wantedA o ops tm = some b) (hb : b = false) : wantedA o ops tm = some false := by rw [h, hb]
theorem cells_v (x : Value) : cellsOf (.v x) = some [.v x] := rfl
theorem cells_os (n e o l : Nat) : cellsOf (.os n e o l) = some [.os n e o l] := rfl
theorem cells_op (n e o l : Nat) : cellsOf (.op n e o l) = some [.op n e o l] := rfl
theorem cells_sl (n : Nat) (es : List (List AV)) : cellsOf (.sl n es) = some [.sl n es] := rfl
theorem cells_fp (es : List AV) : cellsOf (.fp es) = some [.fp es] := rfl
theorem cells_agg (es : List AV) : cellsOf (.agg es) = some es := rfl
theorem cells_e0 : cellsOf .e0 = some [.e0] := rfl
theorem cells_fn (f : FuncId) (es : List AV) : cellsOf (.fn f es) = some [.fn f es] := rfl
theorem eqPlan_opM (E : Env) (t : TypeId) (neg : Bool) (n e i j : Nat) : eqPlan E t neg (.op n e i j) (.v (.pointer none)) = match E.P.underlying t with
    | some (.pointer _) => live n e (.v (.bool neg))
    | _ => .bad := by
  simp only [eqPlan]; cases E.P.underlying t with
  | none => rfl
  | some u => cases u <;> rfl
theorem eqPlan_fpM (E : Env) (t : TypeId) (neg : Bool) (cs : List AV) : eqPlan E t neg (.fp cs) (.v (.pointer none)) = match E.P.underlying t with
    | some (.pointer _) => .val (.v (.bool neg))
    | _ => .bad := by
  simp only [eqPlan]; cases E.P.underlying t with
  | none => rfl
  | some u => cases u <;> rfl
def binB0 : Env → BinOp → TypeId → Operand → Operand → AV → AV → Plan := binOpA
theorem bin_pnilM (E : Env) (t : TypeId) (xo yo : Operand) : binOpA E .eql t xo yo (.v (.pointer none)) (.v (.pointer none)) = match E.P.underlying t with
    | some (.pointer _) => .val (.v (.bool true))
    | _ => binB0 E .eql t xo yo (.v (.pointer none)) (.v (.pointer none)) := by
  split
  · rename_i u h; exact bin_pnil E t xo yo h
  · rfl
theorem bin_beqM (E : Env) (t : TypeId) (xo yo : Operand) (a b : Bool) : binOpA E .eql t xo yo (.v (.bool a)) (.v (.bool b)) = match E.P.underlying t with
    | some .bool => .val (.v (.bool (a == b)))
    | _ => binB0 E .eql t xo yo (.v (.bool a)) (.v (.bool b)) := by
  split
  · rename_i h; exact bin_beq E t xo yo a b h
  · rfl
theorem bin_bneM (E : Env) (t : TypeId) (xo yo : Operand) (a b : Bool) : binOpA E .neq t xo yo (.v (.bool a)) (.v (.bool b)) = match E.P.underlying t with
    | some .bool => .val (.v (.bool (!(a == b))))
    | _ => binB0 E .neq t xo yo (.v (.bool a)) (.v (.bool b)) := by
  split
  · rename_i h; exact bin_bne E t xo yo a b h
  · rfl
def convA0 : Env → TypeId → TypeId → AV → Plan := convA
theorem conv_int (E : Env) (src dst : TypeId) (k : IntKind) (n : Int) : convA E src dst (.v (.int k n)) = match E.P.underlying src, E.P.underlying dst with
    | some _, some (.int k') => .val (.v (.int k' (k'.wrap n)))
    | _, _ => convA0 E src dst (.v (.int k n)) := by
  split
  · rename_i u k' h1 h2
    exact convA_int E src dst k k' n (by rw [h1]; rfl) h2
  · rfl

end Go.Am
