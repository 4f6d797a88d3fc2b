/- Loops over functions; the whole. -/
import Derived.Test.YtoeemmlfcnokiaaGreatAmRun13
import Derived.Scope
set_option linter.all false
set_option linter.deprecated false
namespace Go.Am

/-- A loop over a function is entered: its record; the block for the deferred calls. -/
def Ctx.enter (C : Ctx) (w1 : World) (r : Loop) : Ctx :=
  { C with w := w1, X := fun b => C.X b ∨ b = C.w.heap.size, lp := C.lp ++ [(C.w.heap.size + 1, r)], js := C.js ++ [.on] }

section
variable {C : Ctx} {w1 : World} {r : Loop}
theorem enter_le (g : Good C) (ho : w1.os = C.w.os) (ht : w1.tape = C.w.tape) (hu : w1.output = C.w.output) (hs : w1.heap.size = C.w.heap.size + 2) (hk : ∀ b, b < C.w.heap.size → w1.heap[b]? = C.w.heap[b]?) : Le C (C.enter w1 r) where
  os := ho
  tape := ht
  output := hu
  X := fun _ h => .inl h
  size := by show _ ≤ w1.heap.size; omega
  lp := fun k x h => by
    show (C.lp ++ _)[k]? = _
    rw [List.getElem?_append_left (List.getElem?_eq_some_iff.1 h).1]
    exact h
  xkeep := fun b hb => hk b (g.xlt b hb)
  keep := fun b hb hn => by
    refine ⟨hk b hb, ?_⟩
    rintro (((h | h) | ⟨k, q, h⟩) | h)
    · exact hn (.inl (.inl h))
    · omega
    · change (C.lp ++ [(C.w.heap.size + 1, r)])[k]? = some (b, q) at h
      rcases Nat.lt_or_ge k C.lp.length with hlt | hge
      · rw [List.getElem?_append_left hlt] at h
        exact hn (.inl (.inr ⟨k, q, h⟩))
      · rw [List.getElem?_append_right hge] at h
        rcases hkk : k - C.lp.length with _ | m
        · rw [hkk] at h
          simp at h
          omega
        · rw [hkk] at h
          simp at h
    · exact hn (.inr h)
  born := fun _ h => h
  ep := fun n b' _ h => ⟨b', h, Nat.le_refl _, fun _ => ⟨rfl, rfl, rfl⟩⟩

theorem enter_lp {k l : Nat} {q : Loop} (h : (C.enter w1 r).lp[k]? = some (l, q)) : C.lp[k]? = some (l, q) ∨ (k = C.lp.length ∧ l = C.w.heap.size + 1 ∧ q = r) := by
  change (C.lp ++ [(C.w.heap.size + 1, r)])[k]? = some (l, q) at h
  rcases Nat.lt_or_ge k C.lp.length with hlt | hge
  · rw [List.getElem?_append_left hlt] at h
    exact .inl h
  · rw [List.getElem?_append_right hge] at h
    rcases hkk : k - C.lp.length with _ | m
    · rw [hkk] at h
      simp at h
      exact .inr ⟨by omega, h.1.symm, h.2.symm⟩
    · rw [hkk] at h
      simp at h

theorem enter_good (g : Good C) (ho : w1.os = C.w.os) (ht : w1.tape = C.w.tape) (hu : w1.output = C.w.output) (hs : w1.heap.size = C.w.heap.size + 2) (hk : ∀ b, b < C.w.heap.size → w1.heap[b]? = C.w.heap[b]?)
    (hl : w1.heap[C.w.heap.size + 1]? = some (.loop { r with state := .ready, pending := none })) : Good (C.enter w1 r) where
  blk := fun n b h => (g.blk n b h).mono (enter_le g ho ht hu hs hk) rfl (hk _ (g.lt h))
  inj := g.inj
  notX := fun n b h hx => by
    rcases hx with hx | hx
    · exact g.notX n b h hx
    · have := g.lt h
      exact absurd hx (by show (C.β n).1 ≠ _; omega)
  born := g.born
  xlt := fun b hb => by
    show b < w1.heap.size
    rcases hb with hb | hb
    · have := g.xlt b hb; omega
    · omega
  lpn := by show (C.js ++ _).length = (C.lp ++ _).length; simp [g.lpn]
  lp := fun k l q s h1 h2 => by
    change (C.js ++ [.on])[k]? = some s at h2
    rcases enter_lp h1 with h1 | ⟨rfl, rfl, rfl⟩
    · have hlt : k < C.js.length := by rw [g.lpn]; exact (List.getElem?_eq_some_iff.1 h1).1
      rw [List.getElem?_append_left hlt] at h2
      exact (g.lp k l q s h1 h2).mono (hk _ (g.lp_lt h1)) (by show _ ≤ w1.heap.size; omega)
    · rw [List.getElem?_append_right (by rw [g.lpn]; omega)] at h2
      simp [g.lpn] at h2
      subst h2
      exact hl
  lpX := fun k l q h => by
    rcases enter_lp h with h | ⟨rfl, rfl, rfl⟩
    · refine ⟨?_, (g.lpX k l q h).2⟩
      rintro (hx | hx)
      · exact (g.lpX k l q h).1 hx
      · have := g.lp_lt h; omega
    · refine ⟨?_, fun n b hn e => ?_⟩
      · rintro (hx | hx)
        · have := g.xlt _ hx; omega
        · omega
      · have := g.lt hn
        change (C.β n).1 = _ at e
        omega
  lpi := fun k m l q q' h1 h2 => by
    rcases enter_lp h1 with k1 | ⟨k1, k2, _⟩ <;> rcases enter_lp h2 with k3 | ⟨k3, k4, _⟩
    · exact g.lpi k m l q q' k1 k3
    · have := g.lp_lt k1; omega
    · have := g.lp_lt k3; omega
    · omega
end

theorem heap_alloc' (w : World) (o : Obj) (b : Nat) (hb : b < w.heap.size) : (w.alloc o).heap[b]? = w.heap[b]? := by
  exact Go.RowKit.Below.heap_alloc w o b hb

section
variable {E : Env} {go : Run}

theorem range_goes (hE : ProgOK E) (hgo : GoOK E go) {ys : List (Nat × LRec)} {lo : Nat} {f : Operand} {params : Array Tmp} {assign body : Code} {s s' : St} {x : AX}
    (h : execF E go false ys lo (.rangeFunc f params assign body) s = some (x, s')) {C : Ctx} {a : Act} {F : Fence} {n : Nat} (hF : FenceOK false F) (g : Good C) (hH : HR C s.H) (hlo : lo ≤ s.H.next) (hT : TR C s.tm a.tmps) (hY : YRel C ys) :
    (Code.rangeFunc f params assign body).wpIn F n E.P (Post C lo ys a x s') a C.w := by
  simp only [execF, Bool.false_eq_true, if_false] at h
  split at h
  · rename_i gf caps hfn
    split at h
    · split at h
      · cases h
      rename_i r H' hcall
      obtain ⟨vs, hev, hcl, hcr⟩ := (hfn ▸ aev_rel (C := C) (tm := s.tm) (a := a) f fun t _ => hT.2 t).fn_inv
      refine wpIn_rangeFunc fun fn _ => ?_
      rw [hF.2.2 rfl]
      obtain ⟨w1, hw1⟩ : ∃ w1, (C.w.alloc (.deferred (some []))).alloc (.loop { state := .ready, pending := none, fn, tmps := a.tmps, params, assign, body, defers := C.w.heap.size }) = w1 := ⟨_, rfl⟩
      obtain ⟨rec, hrec⟩ : ∃ rec : Loop, rec = { state := .ready, pending := none, fn, tmps := a.tmps, params, assign, body, defers := C.w.heap.size } := ⟨_, rfl⟩
      have hs : w1.heap.size = C.w.heap.size + 2 := by rw [← hw1]; simp
      have hk : ∀ b, b < C.w.heap.size → w1.heap[b]? = C.w.heap[b]? := fun b hb => by
        rw [← hw1]
        exact (heap_alloc' _ _ _ (by simp; omega)).trans (heap_alloc' _ _ _ hb)
      have hl1 : w1.heap[C.w.heap.size + 1]? = some (.loop { rec with state := .ready, pending := none }) := by
        rw [← hw1, hrec]
        have := World.alloc_heap_new (C.w.alloc (.deferred (some []))) (.loop { state := .ready, pending := none, fn, tmps := a.tmps, params, assign, body, defers := C.w.heap.size })
        rwa [World.size_alloc] at this
      have hD1 : w1.heap[C.w.heap.size]? = some (.deferred (some [])) := by
        rw [← hw1]
        exact (heap_alloc' _ _ _ (by simp)).trans (World.alloc_heap_new C.w _)
      have ho1 : w1.os = C.w.os := by rw [← hw1]; rfl
      have ht1 : w1.tape = C.w.tape := by rw [← hw1]; rfl
      have hu1 : w1.output = C.w.output := by rw [← hw1]; rfl
      have hle1 := enter_le (r := rec) g ho1 ht1 hu1 hs hk
      have g1 := enter_good (r := rec) g ho1 ht1 hu1 hs hk hl1
      have hlast : (C.enter w1 rec).lp[C.lp.length]? = some (C.w.heap.size + 1, rec) := by
        show (C.lp ++ _)[C.lp.length]? = _
        rw [List.getElem?_append_right (Nat.le_refl _)]
        simp
      have hkk : s.H.js.length = C.lp.length := by rw [← hH.js, g.lpn]
      have hH1 : HR (C.enter w1 rec) { s.H with js := s.H.js ++ [.on] } := ⟨hH.get, hH.born, by show C.js ++ _ = _; rw [hH.js]⟩
      have hY1 : YRel (C.enter w1 rec) ((s.H.js.length, ⟨s.tm, params.toList, assign, body⟩) :: ys) := by
        intro p hp
        rcases List.mem_cons.1 hp with rfl | hp
        · exact ⟨_, rec, by rw [hkk]; exact hlast, by rw [hrec], by rw [hrec], by rw [hrec], by show TR _ s.tm rec.tmps; rw [show rec.tmps = a.tmps by rw [hrec]]; exact hT.mono hle1⟩
        · exact (hY.mono hle1) p hp
      have hargs : ARel (C.enter w1 rec) (.yl s.H.js.length :: caps) (#[.func (.yield (C.w.heap.size + 1)) #[] #[]] ++ vs) := by
        have h0 : ARel (C.enter w1 rec) [.yl s.H.js.length] #[.func (.yield (C.w.heap.size + 1)) #[] #[]] := ⟨rfl, fun i hi => by
          have : i = 0 := by simpa using hi
          subst this
          exact .yl _ _ rec (by rw [hkk]; exact hlast)⟩
        exact h0.append (fun i hi => (hcr i hi).mono hle1) hcl
      obtain ⟨k1, gfn, gcd, k2, k3⟩ := call_ok hgo hcall g1 hH1 hlo hargs hY1 F hF (n - 1)
      refine ⟨C.w.heap.size + 1, [{ target := .collected C.w.heap.size, args := #[] }], w1, { target := .fn (.func gf) vs, args := #[.func (.yield (C.w.heap.size + 1)) #[] #[]] }, w1, gf, #[.func (.yield (C.w.heap.size + 1)) #[] #[]] ++ vs, w1, ?_, ?_, fun f' _ => hF.1 f', ?_, hF.room, ?_⟩
      · rw [← hw1]; exact run_enterLoop_outer _ _ _ _ _
      · simp only [resolve, hev]
        simp [go_sem, Deferred.ofValue, Act.eval]
      · simp only [invoke]
        exact run_callFunc k2 k3 (hE.noNG gf gfn k2) _ _
      · refine k1.mono ?_
        rintro e w' ⟨v, rfl, C2, rfl, hA2, hX2, _⟩
        have hl2 := hA2.le.lp _ _ hlast
        have hD2 : C2.w.heap[C.w.heap.size]? = some (.deferred (some [])) := (hA2.le.xkeep _ (.inr rfl)).trans hD1
        have hlt2 : C.w.heap.size + 1 < C2.w.heap.size := hA2.good.lp_lt hl2
        have hend : ∀ (st : LoopState) (pe : Option Code), C2.w.heap[C.w.heap.size + 1]? = some (.loop { rec with state := st, pending := pe }) → st ≠ .busy →
            ∃ C3, (Instr.endLoop (C.w.heap.size + 1)).run E.P C2.w = .ok pe C3.w ∧ After C C3 lo ys { H' with js := H'.js.set s.H.js.length .off } ∧ Marks C C3 [C.w.heap.size] := by
          intro st pe hobj hst
          obtain ⟨u1, u2, u3⟩ := record_turn hA2.good hl2 (.loop { ({ rec with state := st, pending := pe } : Loop) with state := .exhausted }) .off C2.X (fun _ h => h) (by show _ < _; simp [World.putObj]; exact hlt2)
          have hle := u3 (hle1.trans hA2.le) fun b hb => hA2.le.X b (.inl hb)
          refine ⟨_, run_endLoop hobj hst, ⟨hle, u1, ⟨hA2.hr.get, hA2.hr.born, ?_⟩, fun m hm => hA2.low m hm, fun i hi hne => ?_⟩, ⟨by simp, by simp, fun D hD => ?_, fun D hD => ?_⟩⟩
          · show C2.js.set _ _ = _
            rw [hA2.hr.js, hkk]
          · show (C2.js.set _ _)[i]? = _
            have hi' : i < C.lp.length := by rw [← g.lpn]; exact hi
            rw [List.getElem?_set_ne (by omega)]
            have e1 := hA2.js i (by show i < (C.js ++ _).length; simp; omega) (fun p hp => by
              rcases List.mem_cons.1 hp with rfl | hp
              · simp only; omega
              · exact hne p hp)
            rw [e1]
            show (C.js ++ _)[i]? = _
            rw [List.getElem?_append_left hi]
          · rw [List.mem_singleton.1 hD]
            exact hA2.le.X _ (.inr rfl)
          · rw [List.mem_singleton.1 hD]
            exact (World.putObj_heap_other (by omega)).trans hD2
        split at h
        · rename_i hjs
          simp only [Option.some.injEq, Prod.mk.injEq] at h
          obtain ⟨rfl, rfl⟩ := h
          have hobj := hA2.good.lp _ _ rec .on hl2 (by rw [hA2.hr.js, ← hkk]; exact hjs)
          obtain ⟨C3, h1, h2, h3⟩ := hend .ready none hobj (by simp)
          exact ⟨none, C3.w, h1, rfl, C3, [C.w.heap.size], rfl, h2, hT.mono h2.le, rfl, h3⟩
        · rename_i x' hjs
          simp only [Option.some.injEq, Prod.mk.injEq] at h
          obtain ⟨rfl, rfl⟩ := h
          have hobj := hA2.good.lp _ _ rec (.jump x') hl2 (by rw [hA2.hr.js, ← hkk]; exact hjs)
          obtain ⟨C3, h1, h2, h3⟩ := hend .done (some x'.code) hobj (by simp)
          refine ⟨some x'.code, C3.w, h1, ?_⟩
          have hpost : Post C lo ys a x' ⟨s.tm, { H' with js := H'.js.set s.H.js.length .off }⟩ (exOf x') { a with defers := [{ target := .collected C.w.heap.size, args := #[] }] ++ a.defers } C3.w :=
            ⟨rfl, C3, [C.w.heap.size], rfl, h2, hT.mono h2.le, rfl, h3⟩
          cases x' with
          | normal => exact wpIn_skip hpost
          | exit id => exact wpIn_exit hpost
          | ret => exact wpIn_ret hpost
        · cases h
    · cases h
  · cases h

theorem stepR_scope {P : Program} {b : Frame} {a : Act} {k : List Item} {cs : List Frame} {w : World} {c : Code} : step P (lone (b.atR a (.code (.scope c) :: k)) cs w) = .next (lone (b.atR a (.code c :: .inScope c :: k)) cs w) :=
  step_lone_go (by simp [stepG, stepG.exec, Frame.atR])
theorem stepR_inScope {P : Program} {b : Frame} {a : Act} {k : List Item} {cs : List Frame} {w : World} {c : Code} : step P (lone (b.atR a (.inScope c :: k)) cs w) = .next (lone (b.atR a k) cs w) :=
  step_lone_go (by simp [stepG, stepG.exec, Frame.atR])
theorem wpIn_scope_straight {F : Fence} {n : Nat} {P : Program} {Q : Exit → Act → World → Prop} {a : Act} {w : World} {c : Code} (h : c.wpIn F n P (Exit.noGoto Q) a w) : (Code.scope c).wpIn F n P Q a w := by
  intro b k cs hro hb hr
  have h0 : (lone (b.atR a (.code (.scope c) :: k)) cs w).fenced P F := fenced_calm hb hr rfl
  obtain ⟨e, a₁, w₁, hq, harr⟩ := h b (.inScope c :: k) cs hro hb hr
  cases e with
  | normal => exact ⟨.normal, a₁, w₁, hq, .head h0 stepR_scope (StepsIn.trans harr (.one (fenced_calm hb hr rfl) stepR_inScope))⟩
  | exit id =>
    have hx : exitTo id (.inScope c :: k) = exitTo id k := by simp [exitTo]
    exact ⟨.exit id, a₁, w₁, hq, fun k' hk => .head h0 stepR_scope (harr.1 k' (by rw [hx]; exact hk)),
      fun hr' hk => let ⟨k₁, h1, h2⟩ := harr.2 hr' (by rw [hx]; exact hk); ⟨k₁, h1, .head h0 stepR_scope h2⟩⟩
  | goto l => exact hq.elim
  | ret => exact ⟨_, a₁, w₁, hq, .of_steps (.one h0 stepR_scope) harr⟩
  | panic ch => exact ⟨_, a₁, w₁, hq, .of_steps (.one h0 stepR_scope) harr⟩
  | outgrown => exact ⟨_, a₁, w₁, hq, .of_steps (.one h0 stepR_scope) harr⟩

def LoopOK (E : Env) (go : Run) : Prop :=
  ∀ (rd : Bool) (ys : List (Nat × LRec)) (lo : Nat) (c : Code) (s : St) (x : AX) (s' : St), go rd ys lo (.loop c) s = some (x, s') →
    ∀ (C : Ctx) (a : Act) (F : Fence) (n : Nat), FenceOK rd F → Good C → HR C s.H → lo ≤ s.H.next → TR C s.tm a.tmps → YRel C ys → LoopTail F n E.P c (Post C lo ys a x s') a C.w

theorem loop_body (hgo : GoOK E go) (hlp : LoopOK E go) {rd : Bool} {ys : List (Nat × LRec)} {lo : Nat} {c : Code} {s s' : St} {x : AX} (h : execF E go rd ys lo (.loop c) s = some (x, s'))
    {C : Ctx} {a : Act} {F : Fence} {n : Nat} (hF : FenceOK rd F) (g : Good C) (hH : HR C s.H) (hlo : lo ≤ s.H.next) (hT : TR C s.tm a.tmps) (hY : YRel C ys) :
    c.wpIn F n E.P (Exit.then (LoopTail F n E.P c (Post C lo ys a x s')) (Post C lo ys a x s')) a C.w := by
  simp only [execF] at h
  split at h
  · cases h
  · rename_i s1 h1
    refine wpIn_mono (hgo _ _ _ _ _ _ _ h1 C a F n hF g hH hlo hT hY) ?_
    rintro e a1 w1 ⟨rfl, C1, ds, rfl, hA, hT1, hd, hm⟩
    have := hlp _ _ _ _ _ _ _ h C1 a1 F n hF hA.good hA.hr (hA.lo hH hlo) hT1 (hY.mono hA.le)
    show LoopTail F n E.P c (Post C lo ys a x s') a1 C1.w
    intro b k cs hro hb hr
    obtain ⟨e, a', w', hq, harr⟩ := this b k cs hro hb hr
    exact ⟨e, a', w', Post.trans g hA hd hm hq, harr⟩
  · rename_i x1 s1 hne h1
    simp only [Option.some.injEq, Prod.mk.injEq] at h
    obtain ⟨rfl, rfl⟩ := h
    refine wpIn_mono (hgo _ _ _ _ _ _ _ h1 C a F n hF g hH hlo hT hY) ?_
    rintro e a1 w1 ⟨rfl, hP⟩
    cases x1 with
    | normal => exact (hne rfl).elim
    | exit id => exact ⟨rfl, hP⟩
    | ret => exact ⟨rfl, hP⟩

theorem execF_ok (hE : ProgOK E) (hgo : GoOK E go) (hlp : LoopOK E go) : GoOK E (execF E go) := by
  intro rd ys lo c s x s' h C a F n hF g hH hlo hT hY
  have stay : ∀ y : AX, Post C lo ys a y s (exOf y) a C.w := fun y => ⟨rfl, C, [], rfl, .refl g hH, hT, rfl, .nil _ _⟩
  cases c with
  | skip =>
    simp only [execF, Option.some.injEq, Prod.mk.injEq] at h
    obtain ⟨rfl, rfl⟩ := h
    exact wpIn_skip (stay .normal)
  | label l =>
    simp only [execF, Option.some.injEq, Prod.mk.injEq] at h
    obtain ⟨rfl, rfl⟩ := h
    exact wpIn_label (stay .normal)
  | exit id =>
    simp only [execF, Option.some.injEq, Prod.mk.injEq] at h
    obtain ⟨rfl, rfl⟩ := h
    exact wpIn_exit (stay (.exit id))
  | ret =>
    simp only [execF, Option.some.injEq, Prod.mk.injEq] at h
    obtain ⟨rfl, rfl⟩ := h
    exact wpIn_ret (stay .ret)
  | goto l => simp [execF] at h
  | refuse w => simp [execF] at h
  | scope c =>
    simp only [execF] at h
    refine wpIn_scope_straight (wpIn_mono (hgo _ _ _ _ _ _ _ h C a F n hF g hH hlo hT hY) ?_)
    rintro e a1 w1 ⟨rfl, hP⟩
    cases x with
    | normal => exact ⟨rfl, hP⟩
    | exit id => exact ⟨rfl, hP⟩
    | ret => exact ⟨rfl, hP⟩
  | region id ops draw =>
    simp only [execF] at h
    split at h
    · cases h
    · rename_i s1 trs hr
      cases draw with
      | true =>
        simp only [if_true] at h
        split at h
        · rename_i hok
          simp only [Option.some.injEq, Prod.mk.injEq] at h
          obtain ⟨rfl, rfl⟩ := h
          exact region_drawn hE hgo hr hok hF g hH hlo hT hY id
        · cases h
      | false =>
        simp only [Bool.false_eq_true, if_false, Option.some.injEq, Prod.mk.injEq] at h
        obtain ⟨rfl, rfl⟩ := h
        exact region_inOrder hE hgo hr hF g hH hlo hT hY id
  | seq c1 c2 =>
    simp only [execF] at h
    split at h
    · cases h
    · rename_i s1 h1
      refine wpIn_seq (wpIn_mono (hgo _ _ _ _ _ _ _ h1 C a F n hF g hH hlo hT hY) ?_)
      rintro e a1 w1 ⟨rfl, C1, ds, rfl, hA, hT1, hd, hm⟩
      exact wpIn_mono (hgo _ _ _ _ _ _ _ h C1 a1 F n hF hA.good hA.hr (hA.lo hH hlo) hT1 (hY.mono hA.le)) fun e a2 w2 hq => Post.trans g hA hd hm hq
    · rename_i x1 s1 hne h1
      simp only [Option.some.injEq, Prod.mk.injEq] at h
      obtain ⟨rfl, rfl⟩ := h
      refine wpIn_seq (wpIn_mono (hgo _ _ _ _ _ _ _ h1 C a F n hF g hH hlo hT hY) ?_)
      rintro e a1 w1 ⟨rfl, hP⟩
      cases x1 with
      | normal => exact (hne rfl).elim
      | exit id => exact ⟨rfl, hP⟩
      | ret => exact ⟨rfl, hP⟩
  | cond c c1 c2 =>
    simp only [execF] at h
    split at h
    · rename_i hc
      have hv := (hc ▸ aev_rel (C := C) (tm := s.tm) (a := a) c fun t _ => hT.2 t).v_inv.1
      exact wpIn_cond_true hv (hgo _ _ _ _ _ _ _ h C a F n hF g hH hlo hT hY)
    · rename_i hc
      have hv := (hc ▸ aev_rel (C := C) (tm := s.tm) (a := a) c fun t _ => hT.2 t).v_inv.1
      exact wpIn_cond_false hv (hgo _ _ _ _ _ _ _ h C a F n hF g hH hlo hT hY)
    · cases h
  | block id c =>
    simp only [execF] at h
    split at h
    · rename_i id' s1 h1
      refine wpIn_block (wpIn_mono (hgo _ _ _ _ _ _ _ h1 C a F n hF g hH hlo hT hY) ?_)
      rintro e a1 w1 ⟨rfl, hP⟩
      simp only [exOf, Exit.inBlock]
      split at h
      · rename_i hid
        simp only [Option.some.injEq, Prod.mk.injEq] at h
        obtain ⟨rfl, rfl⟩ := h
        rw [if_pos hid]
        exact ⟨rfl, hP⟩
      · rename_i hid
        simp only [Option.some.injEq, Prod.mk.injEq] at h
        obtain ⟨rfl, rfl⟩ := h
        rw [if_neg hid]
        exact ⟨rfl, hP⟩
    · rename_i hne
      refine wpIn_block (wpIn_mono (hgo _ _ _ _ _ _ _ h C a F n hF g hH hlo hT hY) ?_)
      rintro e a1 w1 ⟨rfl, hP⟩
      cases x with
      | normal => exact ⟨rfl, hP⟩
      | exit id' => exact (hne _ _ h).elim
      | ret => exact ⟨rfl, hP⟩
  | loop c => exact wpIn_loop_tail (loop_body hgo hlp h hF g hH hlo hT hY)
  | rangeFunc f params assign body =>
    cases rd with
    | true => simp [execF] at h
    | false => exact range_goes hE hgo h hF g hH hlo hT hY

theorem exec_ok (hE : ProgOK E) (n : Nat) : GoOK E (exec E n) ∧ LoopOK E (exec E n) := by
  induction n with
  | zero => exact ⟨fun rd ys lo c s x s' h => by simp [exec] at h, fun rd ys lo c s x s' h => by simp [exec] at h⟩
  | succ n ih =>
    exact ⟨execF_ok hE ih.1 ih.2, fun rd ys lo c s x s' h C a F m hF g hH hlo hT hY => .intro (loop_body ih.1 ih.2 h hF g hH hlo hT hY)⟩
end

/-- **THE MACHINE IS SOUND**: a call of a function, on an empty heap, on values that lie in the world as they are told. -/
theorem calls_of_acall {E : Env} (hE : ProgOK E) {n lo : Nat} {f : FuncId} {args : List AV} {r : AV} {H' : AHeap} (h : acall E [] n 0 f args .empty = some (r, H')) {w : World} {vs : Array Value}
    (ha : vs.size = args.length ∧ ∀ i, i < args.length → FR w (fun _ => False) (args.getD i .dead) (vs.getD i undef)) :
    Calls E.P f vs w fun e w' => ∃ v, e = .returned v ∧ w'.os = w.os ∧ w'.tape = w.tape ∧ w'.output = w.output ∧ w.heap.size ≤ w'.heap.size ∧ (∀ b, b < w.heap.size → w'.heap[b]? = w.heap[b]?) ∧
      ∃ C : Ctx, C.w = w' ∧ Good C ∧ HR C H' ∧ VR C r v := by
  let C0 : Ctx := ⟨w, fun _ => (0, 0, 0), fun _ => none, fun _ => False, fun _ => False, [], []⟩
  have hav : ∀ b, ¬ C0.av b := by
    rintro b ((h | ⟨k, r, h⟩) | ⟨n, blk, h, _⟩)
    · exact h
    · simp [C0] at h
    · simp [C0] at h
  have g0 : Good C0 := ⟨fun n b h => by simp [C0] at h, fun n m b c h => by simp [C0] at h, fun n b h => by simp [C0] at h, fun n b h => by simp [C0] at h, fun b h => h.elim, rfl, fun k l r s h => by simp [C0] at h, fun k l r h => by simp [C0] at h, fun k m l r q h => by simp [C0] at h⟩
  have h0 : HR C0 .empty := ⟨fun n => rfl, fun n => ⟨fun h => h.elim, fun h => by simp [AHeap.empty] at h⟩, rfl⟩
  have hA : ARel C0 args vs := ⟨ha.1, fun i hi => .fr ((ha.2 i hi).weak fun b hb => hav b hb)⟩
  obtain ⟨k, _⟩ := call_ok (exec_ok hE n).1 h g0 h0 (Nat.zero_le _) hA (YRel.nil _) Fence.wide ⟨fun _ => trivial, rfl, fun _ => rfl⟩ 0
  refine callsIn_wide.1 (k.mono ?_)
  rintro e w' ⟨v, rfl, C', rfl, hAf, _, hv⟩
  exact ⟨v, rfl, hAf.le.os, hAf.le.tape, hAf.le.output, hAf.le.size, fun b hb => (hAf.le.keep b hb (hav b)).1, C', rfl, hAf.good, hAf.hr, hv⟩

end Go.Am
