/- One operation: calls; yields. -/
import Derived.Test.YtoeemmlfcnokiaaGreatAmRun8
set_option linter.all false
set_option linter.deprecated false
namespace Go.Am

theorem hand_leaves {H1 H H' : AHeap} {lo' : Nat} {own : Bool} {r x : AV} {all : Nat} (h : hand H1 lo' own H r = some (x, H')) : Leaves H H' ⟨0, newBits H.next (H'.next - H.next), all⟩ := by
  obtain ⟨T, bs, h1, h2, h3, h4, rfl, _⟩ := hand_ok' h
  obtain ⟨e1, e2⟩ := pushAll_next H bs
  refine ⟨fun n hn _ => ?_, fun _ => e2⟩
  have hn : ¬ (H.next ≤ n ∧ n < H.next + bs.length) := by
    have := hn
    simp only [newBits_test, e1] at this
    simpa [Nat.add_sub_cancel_left] using this
  rw [pushAll_get, if_neg hn, e1]
  exact ⟨rfl, by omega⟩

theorem hand_did {H1 H H' : AHeap} {lo lo' : Nat} {ys : List (Nat × LRec)} {own : Bool} {r x : AV} {all : Nat} (h : hand H1 lo' own H r = some (x, H')) (hall : all = 0 ∨ all = 1) {C C1 : Ctx} (g : Good C) (g1 : Good C1) (B : Back C C1 lo')
    (hget : ∀ n, C1.get n = H1.get n) (hA : Agrees C H ⟨0, newBits H.next (H'.next - H.next), all⟩) (hlow : ∀ m, m < lo → C.born m) {v : Value} (hv : VR C1 r v) :
    ∃ C2, C2.w = C1.w ∧ Did C C2 lo ys H' ⟨0, newBits H.next (H'.next - H.next), all⟩ ∧ VR C2 x v := by
  obtain ⟨T, bs, h1, h2, h3, h4, rfl, _⟩ := hand_ok' h
  obtain ⟨e1, e2⟩ := pushAll_next H bs
  obtain ⟨hlen, _⟩ := blksA_ok h3
  have hbit : ∀ n, (newBits H.next ((pushAll H bs).next - H.next)).testBit n = decide (inT H.next T n) := fun n => by
    rw [newBits_test, e1, hlen, Nat.add_sub_cancel_left]
    rfl
  have hnew : ∀ n, inT H.next T n → ¬ C.born n := fun n hn hb => by
    have := (hA.get n (.inr (.inl (by simpa [hbit n] using hn)))).2.1 hb
    unfold inT at hn
    omega
  refine ⟨C.back C1 H.next T bs, rfl, ⟨back_le g g1 B hget h3 hnew, back_good g g1 B hget h3 hnew (nodupN_ok h1) h2, rfl, fun n hn => ?_, fun n hn _ => ?_, fun h => ?_, fun _ => rfl, fun n hn => ?_, fun _ _ _ => rfl⟩, h4 ▸ renV_rel g1 B hget h3 hnew frzDepth hv⟩
  · have hn : inT H.next T n := by
      rcases hn with hn | hn
      · simpa [hbit n] using hn
      · simp only at hn; omega
    have hn' : H.next ≤ n ∧ n < H.next + bs.length := by unfold inT at hn; omega
    rw [pushAll_get, if_pos hn', e1]
    simp only [Ctx.back, if_pos hn]
    exact ⟨trivial, ⟨fun _ => hn'.2, fun _ => .inr hn⟩⟩
  · have hn : ¬ inT H.next T n := by simpa [hbit n] using hn
    simp only [Ctx.back, if_neg hn]
    exact ⟨trivial, ⟨fun h => h.resolve_right hn, .inl⟩⟩
  · simp only at h; omega
  · have hn' : ¬ inT H.next T n := fun h => hnew n h (hlow n hn)
    simp only [Ctx.back, if_neg hn']

theorem zip_getD {α β : Type} (l : List α) (m : List β) (i : Nat) (a : α) (b : β) (h1 : i < l.length) (h2 : i < m.length) : (l.zip m).getD i (a, b) = (l.getD i a, m.getD i b) := by
  rw [List.getD_eq_getElem?_getD, List.getElem?_eq_getElem (by simp; omega)]
  simp [h1, h2]
theorem nf_args {C : Ctx} {args : List AV} {vs : Array Value} (h : ARel C args vs) (hn : args.all nf = true) : ARel C.bare args vs :=
  ⟨h.1, fun i hi => nf_rel (List.all_eq_true.1 hn _ (by simp [List.getD_eq_getElem?_getD, hi])) (h.2 i hi)⟩

section
variable {E : Env} {go : Run} {ys : List (Nat × LRec)} {lo : Nat} {H H' : AHeap} {x : AV} {tr : Tr} {C : Ctx} {o : Oper} {ρ : Operand → AV} {a : Act} {F : Fence} {n : Nat} {rd : Bool}

theorem FenceOK.plain (h : FenceOK rd F) : FenceOK false F.plain := ⟨h.1, h.2.1, fun _ => rfl⟩
theorem FenceOK.inRound (h : FenceOK rd F) (l : Nat) : FenceOK true (F.inRound l) := ⟨h.1, h.2.1, fun h => by cases h⟩
theorem FenceOK.room (h : FenceOK rd F) {m : Nat} : F.depth.isSome = true → 1 ≤ m := fun h' => by rw [h.2.1] at h'; cases h'
theorem callsIn_plain {P : Program} {m : Nat} {f : FuncId} {vs : Array Value} {w : World} {R : Ending → World → Prop} (h : CallsIn F.plain m P f vs w R) : CallsIn F m P f vs w R := h

/-- A call, from what its callee's run says. -/
theorem call_goes {E : Env} {c : Call} {fo : Operand} (hE : ProgOK E) (hF : FenceOK rd F) (ho : o.op = .call c) (hc : c.callee = .value fo) {f : FuncId} {caps : Array Value} (hf : a.eval fo = .func (.func f) #[] caps)
    (hcall : CallsIn F (n - 1) E.P f (c.args.map a.eval ++ caps) C.w (fun e w' => ∃ v, e = .returned v ∧ ∃ C', C'.w = w' ∧ Did C C' lo ys H' tr ∧ VR C' x v) ∧ ∃ fn cd, E.P.funcs[f]? = some fn ∧ fn.body = some cd) :
    OpGoes E C lo ys H' tr x F n o a := by
  intro K Q hK
  obtain ⟨hcall, fn, cd, h1, h2⟩ := hcall
  refine Oper.wpIn_of hF (fun c' hc' => by rw [ho] at hc'; cases hc') ?_
  rw [run_call ho hc hf, run_callFunc h1 h2 (hE.noNG f fn h1)]
  refine ⟨hF.room, hcall.mono ?_⟩
  rintro e w' ⟨v, rfl, C', rfl, hd, hv⟩
  exact hK C' v hd hv

theorem yield_goes (hgo : GoOK E go) {c : Call} {fo : Operand} (hF : FenceOK rd F) (ho : o.op = .call c) (hc : c.callee = .value fo) {k : Nat} {args : List AV} (hy : yieldG go ys lo k args H = some (x, H')) (g : Good C) (hH : HR C H) (hlow : ∀ m, m < lo → C.born m)
    (hys : YRel C ys) (hfo : VR C (.yl k) (a.eval fo)) (hargs : ARel C args (c.args.map a.eval)) : OpGoes E C lo ys H' ⟨0, 0, 2⟩ x F n o a := by
  obtain ⟨l, r, hl, hev⟩ : ∃ (l : Nat) (r : Loop), C.lp[k]? = some (l, r) ∧ a.eval fo = .func (.yield l) #[] #[] := by
    generalize a.eval fo = u at hfo
    cases hfo with
    | fr h => cases h
    | yl _ l r h => exact ⟨l, r, h, rfl⟩
  unfold yieldG at hy
  split at hy
  · cases hy
  rename_i p rec hfind
  have hmem : (p, rec) ∈ ys := List.mem_of_find?_eq_some hfind
  have hpk : p = k := by simpa using List.find?_some hfind
  subst hpk
  obtain ⟨l', r', hl', hp, has, hbo, hT⟩ := hys _ hmem
  rw [hl] at hl'
  cases hl'
  split at hy
  · rename_i hon
    split at hy
    · rename_i hlen
      have hjs : C.js[p]? = some .on := by rw [hH.js]; exact hon
      have hobj := g.lp p l r _ hl hjs
      have hset : ∀ (ps : List (Tmp × AV)) (us : List (Tmp × Value)) (tm : Slots) (tmps : Array Value) (kk : Slots → Option (AV × AHeap)) (res : AV × AHeap), TR C tm tmps → ps.length = us.length →
          (∀ i, i < ps.length → (ps.getD i (0, .dead)).1 = (us.getD i (0, undef)).1 ∧ VR C (ps.getD i (0, .dead)).2 (us.getD i (0, undef)).2) → setAll tm ps kk = some res →
          ∃ tm', kk tm' = some res ∧ TR C tm' (us.foldl (fun tmps (p : Tmp × Value) => tmps.setIfInBounds p.1 p.2) tmps) := by
        intro ps
        induction ps with
        | nil => intro us tm tmps kk res hT hl _ h; cases us with
          | nil => exact ⟨tm, h, hT⟩
          | cons _ _ => simp at hl
        | cons q ps ih =>
          intro us tm tmps kk res hT hl hr h
          cases us with
          | nil => simp at hl
          | cons u us =>
            obtain ⟨t, y⟩ := q
            obtain ⟨t', u⟩ := u
            have h0 := hr 0 (by simp)
            simp only [List.getD_cons_zero] at h0
            obtain ⟨rfl, h0⟩ := h0
            simp only [setAll] at h
            obtain ⟨tm1, h1, h2, h3⟩ := Slots.set_ok h
            exact ih us tm1 _ kk res (hT.set h0 h2 h3) (by simpa using hl) (fun i hi => by simpa using hr (i + 1) (by simpa using hi)) h1
      have hpar : r.params.size = args.length := by rw [← hlen, ← hp]; simp
      obtain ⟨tm', hy, hT'⟩ := hset (rec.params.zip args) ((r.params.zip (c.args.map a.eval)).toList) rec.tm r.tmps _ _ hT (by simp [hlen, hpar, hargs.1]; rw [← hargs.1]; simp) (fun i hi => by
        have hi1 : i < rec.params.length := by simp at hi; omega
        have hi2 : i < args.length := by omega
        have hi3 : i < c.args.size := by have := hargs.1; simp at this; omega
        have hi4 : i < r.params.size := by omega
        have hv := hargs.2 i hi2
        have e1 : (rec.params.zip args).getD i (0, .dead) = (rec.params.getD i 0, args.getD i .dead) := by
          exact zip_getD _ _ _ _ _ hi1 hi2
        have e2 : ((r.params.zip (c.args.map a.eval)).toList).getD i (0, undef) = (r.params.toList.getD i 0, (c.args.map a.eval).getD i undef) := by
          rw [Array.toList_zip, zip_getD _ _ _ _ _ (by simpa using hi4) (by simpa using hi3)]
          simp [List.getD_eq_getElem?_getD, Array.getD_eq_getD_getElem?]
        rw [e1, e2, hp]
        exact ⟨rfl, hv⟩) hy
      intro K Q hK
      refine Oper.wpIn_of hF (fun c' hc' => by rw [ho] at hc'; cases hc') ?_
      rw [run_callYield ho hc hev, run_yield (args := c.args.map a.eval) hobj (by rw [hargs.1, hpar])]
      refine ⟨hF.room, roundIn_of_wpIn (hF.1 _) ?_⟩
      split at hy
      · rename_i s1 hx1
        have hw1 := hgo true [] lo rec.assign ⟨tm', H⟩ .normal s1 hx1 C { tmps := ((r.params.zip (c.args.map a.eval)).toList).foldl (fun tmps (p : Tmp × Value) => tmps.setIfInBounds p.1 p.2) r.tmps, defers := [] } (F.inRound l) (n - 1) (hF.inRound l) g hH (hH.le_next hlow) hT' (YRel.nil C)
        rw [← has] at hw1
        rw [← Array.foldl_toList]
        refine wpIn_mono hw1 ?_
        rintro e a1 w1 ⟨rfl, C1, ds1, rfl, hA1, hT1, hd1, hm1⟩
        have hl1 := hA1.le.lp _ _ hl
        have hk : p < C.js.length := (List.getElem?_eq_some_iff.1 hjs).1
        have hjs1 : C1.js[p]? = some .on := (hA1.js p hk (by simp)).trans hjs
        have hobj1 := hA1.good.lp p l r _ hl1 hjs1
        refine ⟨_, run_beginRound hobj1 rfl, ?_⟩
        have hlt1 : l < C1.w.heap.size := (Array.getElem?_eq_some_iff.1 hobj1).1
        obtain ⟨t1, t2, t3⟩ := record_turn hA1.good hl1 (.loop { ({ r with state := .ready, pending := none } : Loop) with state := .busy }) .busy C1.X (fun _ h => h) (World.putObj_heap_same hlt1)
        have hLe2 := t3 (Le.refl C1) (fun _ h => h)
        generalize hC2 : C1.turn (C1.w.putObj l (.loop { ({ r with state := .ready, pending := none } : Loop) with state := .busy })) (C1.js.set p .busy) C1.X = C2 at t1 t2 t3 hLe2
        have hw2e : C1.w.putObj l (.loop { ({ r with state := .ready, pending := none } : Loop) with state := .busy }) = C2.w := by rw [← hC2]; rfl
        rw [hw2e]
        have hH2 : HR C2 { s1.H with js := s1.H.js.set p .busy } := by
          rw [← hC2]
          exact ⟨hA1.hr.get, hA1.hr.born, by show C1.js.set p .busy = _; rw [hA1.hr.js]⟩
        have hl2 := hLe2.lp _ _ hl1
        have hjs2 : C2.js[p]? = some .busy := by
          rw [← hC2]
          exact List.getElem?_set_self (Nat.lt_of_lt_of_le hk (g.jslen hA1.good hA1.le))
        have hafter : ∀ (x2 : AX) (s2 : St), go true [] lo rec.body ⟨s1.tm, { s1.H with js := s1.H.js.set p .busy }⟩ = some (x2, s2) →
            (∀ (w4 : World) (st : LS) (st' : LoopState) (pe : Option Code), (∀ (w : World), w.heap[l]? = some (.loop { r with state := st', pending := pe }) → LoopAt w l r st) →
              (fun (_ : Unit) => True) () → ∀ (C3 : Ctx), After C2 C3 lo [] s2.H → C3.w.putObj l (.loop { r with state := st', pending := pe }) = w4 → ∃ C4, C4.w = w4 ∧ Did C C4 lo ys { s2.H with js := s2.H.js.set p st } ⟨0, 0, 2⟩) := by
          intro x2 s2 _ w4 st st' pe hst _ C3 hA3 hw4
          have hl3 := hA3.le.lp _ _ hl2
          have hlt3 : l < C3.w.heap.size := hA3.good.lp_lt hl3
          have hX3 : ∀ b, C.X b → C3.X b := fun b hb => hA3.le.X b (hLe2.X b (hA1.le.X b hb))
          obtain ⟨u1, u2, u3⟩ := record_turn hA3.good hl3 (.loop { r with state := st', pending := pe }) st C.X hX3 (hst _ (World.putObj_heap_same hlt3))
          have hle := u3 (((hA1.le.trans hLe2)).trans hA3.le) (fun _ h => h)
          refine ⟨_, hw4, hle, u1, rfl, fun m _ => ⟨hA3.hr.get m, hA3.hr.born m⟩, fun m _ h => absurd rfl h, fun _ => ?_, fun h => absurd rfl h, fun m hm => ?_, fun i hi hne => ?_⟩
          · show C3.js.set p st = _
            rw [hA3.hr.js]
          · show C3.get m = C.get m
            rw [hA3.low m hm, ← hA1.low m hm, ← hC2]
            rfl
          · have hip : i ≠ p := fun e => hne _ hmem e.symm
            show (C3.js.set p st)[i]? = _
            rw [List.getElem?_set_ne (fun e => hip e.symm)]
            have hi1 : i < C1.js.length := Nat.lt_of_lt_of_le hi (g.jslen hA1.good hA1.le)
            have e2 : C2.js[i]? = C1.js[i]? := by rw [← hC2]; exact List.getElem?_set_ne (fun e => hip e.symm)
            have hi2 : i < C2.js.length := by rw [← hC2]; show i < (C1.js.set p .busy).length; simpa using hi1
            rw [hA3.js i hi2 (by simp), e2]
            exact hA1.js i hi (by simp)
        have hbody : ∀ (x2 : AX) (s2 : St), go true [] lo rec.body ⟨s1.tm, { s1.H with js := s1.H.js.set p .busy }⟩ = some (x2, s2) →
            r.body.wpIn (F.inRound l) (n - 1) E.P (Post C2 lo [] a1 x2 s2) a1 C2.w := fun x2 s2 hx2 => by
          rw [hbo]
          exact hgo true [] lo rec.body _ x2 s2 hx2 C2 a1 (F.inRound l) (n - 1) (hF.inRound l) t1 hH2 (hA1.lo hH (hH.le_next hlow)) ⟨hT1.1, fun t => t2 (hT1.2 t)⟩ (YRel.nil C2)
        split at hy
        · rename_i s2 hx2
          simp only [Option.some.injEq, Prod.mk.injEq] at hy
          obtain ⟨rfl, rfl⟩ := hy
          refine wpIn_mono (hbody _ _ hx2) ?_
          rintro e a3 w3 ⟨rfl, C3, ds3, rfl, hA3, _, _, _⟩
          have hobj3 : C3.w.heap[l]? = some (.loop { r with state := .busy, pending := none }) := hA3.good.lp p l r _ (hA3.le.lp _ _ hl2) ((hA3.js p (List.getElem?_eq_some_iff.1 hjs2).1 (by simp)).trans hjs2)
          refine ⟨_, _, run_endRound none hobj3, ?_⟩
          obtain ⟨C4, h4, d4⟩ := hafter _ _ hx2 _ .on .ready none (fun w hw => hw) trivial C3 hA3 rfl
          have hfin := hK C4 (.bool true) d4 (.fr (.v rfl))
          rw [h4] at hfin
          exact hfin
        · rename_i x2 s2 hx2 hne
          simp only [Option.some.injEq, Prod.mk.injEq] at hy
          obtain ⟨rfl, rfl⟩ := hy
          refine wpIn_mono (hbody _ _ hne) ?_
          rintro e a3 w3 ⟨rfl, C3, ds3, rfl, hA3, _, _, _⟩
          have hobj3 : C3.w.heap[l]? = some (.loop { r with state := .busy, pending := none }) := hA3.good.lp p l r _ (hA3.le.lp _ _ hl2) ((hA3.js p (List.getElem?_eq_some_iff.1 hjs2).1 (by simp)).trans hjs2)
          obtain ⟨C4, h4, d4⟩ := hafter _ _ hne _ (.jump x2) .done (some x2.code) (fun w hw => hw) trivial C3 hA3 rfl
          have hfin := hK C4 (.bool false) d4 (.fr (.v rfl))
          rw [h4] at hfin
          cases x2 with
          | normal => exact (hx2 rfl).elim
          | exit id => exact ⟨_, _, run_endRound (some (.exit id)) hobj3, hfin⟩
          | ret => exact ⟨_, _, run_endRound (some .ret) hobj3, hfin⟩
        · cases hy
      · cases hy
    · cases hy
  · cases hy
end
end Go.Am
