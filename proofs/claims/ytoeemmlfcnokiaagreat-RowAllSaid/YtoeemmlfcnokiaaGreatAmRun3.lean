/- The caller's context after a call. -/
import Derived.Test.YtoeemmlfcnokiaaGreatAmRun2
set_option linter.all false
set_option linter.deprecated false
namespace Go.Am

theorem blksA_ok {H : AHeap} {lo base : Nat} {T : List Nat} {d : Nat} {l : List Nat} {bs : List Blk} (h : blksA H lo base T d l = some bs) :
    bs.length = l.length ∧ ∀ (k n : Nat), l[k]? = some n → ∃ b : Blk, H.get n = some b ∧ bs[k]? = some { b with ep := 0, es := b.es.map fun cs => cs.map (renC H lo base T d) } := by
  induction l generalizing bs with
  | nil => simp only [blksA, Option.some.injEq] at h; subst h; exact ⟨rfl, fun k n h => by simp at h⟩
  | cons m r ih =>
    simp only [blksA] at h
    cases hm : H.get m with
    | none => rw [hm] at h; cases h
    | some b =>
      rw [hm] at h
      simp only at h
      cases hr : blksA H lo base T d r with
      | none => rw [hr] at h; cases h
      | some rs =>
        rw [hr] at h
        simp only [Option.map_some, Option.some.injEq] at h
        subst h
        obtain ⟨h1, h2⟩ := ih hr
        refine ⟨by simp [h1], fun k n hk => ?_⟩
        cases k with
        | zero => simp at hk; subst hk; exact ⟨b, hm, by simp⟩
        | succ k => exact h2 k n (by simpa using hk)

theorem pushAll_next (G : AHeap) (bs : List Blk) : (pushAll G bs).next = G.next + bs.length ∧ (pushAll G bs).js = G.js := by
  induction bs generalizing G with
  | nil => exact ⟨rfl, rfl⟩
  | cons b r ih => simp only [pushAll]; rw [(ih _).1, (ih _).2]; simp only [AHeap.push, List.length_cons]; exact ⟨by omega, trivial⟩
theorem push_get (G : AHeap) (b : Blk) (n : Nat) : (G.push b).get n = if n = G.next then some b else G.get n := by
  simp only [AHeap.push, AHeap.get, look]
  by_cases h : G.next = n
  · rw [if_pos h, if_pos h.symm]
  · rw [if_neg h, if_neg (fun e => h e.symm)]
theorem pushAll_get (G : AHeap) (bs : List Blk) (n : Nat) : (pushAll G bs).get n = if G.next ≤ n ∧ n < G.next + bs.length then bs[n - G.next]? else G.get n := by
  induction bs generalizing G with
  | nil => simp only [pushAll, List.length_nil]; rw [if_neg (by omega)]
  | cons b r ih =>
    simp only [pushAll]
    rw [ih, push_get]
    have hn : (G.push b).next = G.next + 1 := rfl
    rw [hn]
    by_cases h0 : n = G.next
    · subst h0
      rw [if_neg (by omega), if_pos rfl, if_pos (by simp)]
      simp
    · by_cases h1 : G.next + 1 ≤ n ∧ n < G.next + 1 + r.length
      · rw [if_pos h1, if_pos (by simp only [List.length_cons]; omega), show n - G.next = (n - (G.next + 1)) + 1 by omega, List.getElem?_cons_succ]
      · rw [if_neg h1, if_neg h0, if_neg (by simp only [List.length_cons]; omega)]

/-- From a caller's context to the one at its callee's end: what is needed to come back. Names below lo are the caller's. -/
structure Back (C C1 : Ctx) (lo : Nat) : Prop where
  os : C1.w.os = C.w.os
  tape : C1.w.tape = C.w.tape
  output : C1.w.output = C.w.output
  size : C.w.heap.size ≤ C1.w.heap.size
  xkeep : ∀ b, C.X b → C1.w.heap[b]? = C.w.heap[b]?
  keep : ∀ b, b < C.w.heap.size → ¬ C.av b → C1.w.heap[b]? = C.w.heap[b]? ∧ ¬ C1.av b
  av : ∀ b, C.av b → C1.av b ∧ ∀ n blk, lo ≤ n → C1.get n = some blk → (C1.β n).1 ≠ b
  low : ∀ n b, n < lo → C.get n = some b → C1.get n = some b ∧ C1.β n = C.β n
  born : ∀ n, n < lo → C.born n
  blk : ∀ n b, C.get n = some b → C1.w.heap[(C.β n).1]? = C.w.heap[(C.β n).1]? ∨ (n < lo ∧ (∀ m, C.born m → m < lo) ∧ ∀ (k : Nat) x, C.lp[k]? = some x → C1.lp[k]? = some x)
  lp : ∀ (k l : Nat) (r : Loop) (s : LS), C.lp[k]? = some (l, r) → C.js[k]? = some s → LoopAt C1.w l r s

def inT (base : Nat) (T : List Nat) (n : Nat) : Prop := base ≤ n ∧ n < base + T.length
instance (base : Nat) (T : List Nat) (n : Nat) : Decidable (inT base T n) := inferInstanceAs (Decidable (_ ∧ _))

def Ctx.back (C C1 : Ctx) (base : Nat) (T : List Nat) (bs : List Blk) : Ctx :=
  { C with w := C1.w, β := fun n => if inT base T n then C1.β (T.getD (n - base) 0) else C.β n,
           get := fun n => if inT base T n then bs[n - base]? else C.get n, born := fun n => C.born n ∨ inT base T n }

section
variable {C C1 : Ctx} {H : AHeap} {lo base d : Nat} {T : List Nat} {bs : List Blk}

theorem back_in (hb : blksA H lo base T d T = some bs) {n : Nat} (h : inT base T n) : ∃ (m : Nat) (b : Blk), T[n - base]? = some m ∧ T.getD (n - base) 0 = m ∧ H.get m = some b ∧ bs[n - base]? = some { b with ep := 0, es := b.es.map fun cs => cs.map (renC H lo base T d) } := by
  have hlt : n - base < T.length := by unfold inT at h; omega
  obtain ⟨_, h2⟩ := blksA_ok hb
  obtain ⟨b, h3, h4⟩ := h2 _ _ (List.getElem?_eq_getElem hlt)
  exact ⟨_, b, List.getElem?_eq_getElem hlt, by simp [List.getD_eq_getElem?_getD, hlt], h3, h4⟩

theorem back_av (g1 : Good C1) (B : Back C C1 lo) (hget : ∀ n, C1.get n = H.get n) (hb : blksA H lo base T d T = some bs) (b : Nat) (h : (C.back C1 base T bs).av b) :
    C.av b ∨ ∃ (n m : Nat) (blk : Blk), inT base T n ∧ T[n - base]? = some m ∧ C1.get m = some blk ∧ (C1.β m).1 = b := by
  rcases h with h | ⟨n, blk, h1, h2⟩
  · exact .inl (.inl h)
  · simp only [Ctx.back] at h1 h2
    by_cases hn : inT base T n
    · obtain ⟨m, b', e1, e2, e3, e4⟩ := back_in hb hn
      rw [if_pos hn] at h2
      rw [e2] at h2
      exact .inr ⟨n, m, b', hn, e1, (hget m).trans e3, h2⟩
    · rw [if_neg hn] at h1 h2
      exact .inl (.inr ⟨n, blk, h1, h2⟩)

theorem back_sub (g1 : Good C1) (B : Back C C1 lo) (hget : ∀ n, C1.get n = H.get n) (hb : blksA H lo base T d T = some bs) (b : Nat) (h : (C.back C1 base T bs).av b) : C1.av b := by
  rcases back_av g1 B hget hb b h with h | ⟨n, m, blk, _, _, h1, h2⟩
  · exact (B.av b h).1
  · exact .inr ⟨m, blk, h1, h2⟩

theorem back_free (g1 : Good C1) (B : Back C C1 lo) (hget : ∀ n, C1.get n = H.get n) (hb : blksA H lo base T d T = some bs) (n : Nat) (blk : Blk) (hn : C1.get n = some blk) (hbad : badN lo T n = false) :
    ¬ (C.back C1 base T bs).av (C1.β n).1 := by
  obtain ⟨h1, h2⟩ := badN_ok hbad
  intro h
  rcases back_av g1 B hget hb _ h with h | ⟨k, m, blk', _, e1, e2, e3⟩
  · exact (B.av _ h).2 n blk h1 hn rfl
  · have := g1.inj m n blk' blk e2 hn e3
    subst this
    exact h2 (List.mem_of_getElem? e1)

theorem renC_rel (g1 : Good C1) (B : Back C C1 lo) (hget : ∀ n, C1.get n = H.get n) (hb : blksA H lo base T d T = some bs) (hnew : ∀ n, inT base T n → ¬ C.born n) (d' : Nat)
    {x : AV} {v : Value} (h : VR C1 x v) : VR (C.back C1 base T bs) (renC H lo base T d' x) v := by
  have hf : ∀ {x : AV} {v : Value}, VR C1 x v → VR (C.back C1 base T bs) (frz H (badN lo T) d' x) v := fun h =>
    .fr (frz_rel (av := (C.back C1 base T bs).av) g1 hget (back_sub g1 B hget hb) (back_free g1 B hget hb) d' h)
  have hlow : ∀ n, n < lo → (C.back C1 base T bs).get n = C.get n ∧ (C.back C1 base T bs).β n = C.β n ∧ (C.back C1 base T bs).born n := fun n hn => by
    have : ¬ inT base T n := fun h => hnew n h (B.born n hn)
    simp only [Ctx.back, if_neg this]
    exact ⟨trivial, trivial, .inl (B.born n hn)⟩
  have hT : ∀ n k b, idxN T n 0 = some k → H.get n = some b → inT base T (base + k) ∧ (C.back C1 base T bs).β (base + k) = C1.β n ∧ (C.back C1 base T bs).get (base + k) = some { b with ep := 0, es := b.es.map fun cs => cs.map (renC H lo base T d) } := fun n k b hk hbn => by
    obtain ⟨_, h2⟩ := idxN_ok hk
    rw [Nat.sub_zero] at h2
    have hlt : k < T.length := (List.getElem?_eq_some_iff.1 h2).1
    have hin : inT base T (base + k) := by unfold inT; omega
    obtain ⟨m, b', e1, e2, e3, e4⟩ := back_in hb hin
    rw [show base + k - base = k by omega] at e1 e2 e4
    rw [h2] at e1
    cases e1
    rw [hbn] at e3
    cases e3
    simp only [Ctx.back, if_pos hin]
    rw [show base + k - base = k by omega]
    exact ⟨hin, by rw [e2], e4⟩
  cases x with
  | os n e off len =>
    simp only [renC]
    split
    · rename_i hn
      obtain ⟨l1, l2, l3⟩ := hlow n hn
      cases h with
      | fr h => cases h
      | os _ _ _ _ _ hb' h1 he h =>
        refine .os n e off len v l3 h1 (fun b hg => ?_) fun b hg hep => ?_
        · rw [l1] at hg
          exact he b (B.low n b hn hg).1
        · rw [l1] at hg
          obtain ⟨g2, g3⟩ := B.low n b hn hg
          rw [l2, ← g3]
          exact h b g2 hep
    · split
      · rename_i k hk
        split
        · rename_i b hbn
          split
          · rename_i hep
            obtain ⟨t1, t2, t3⟩ := hT n k b hk hbn
            obtain ⟨a, cap, hv, hc, hl, ha⟩ := h.os_inv ((hget n).trans hbn) hep
            refine .os (base + k) 0 off len v (.inr t1) (by rw [hv]; rfl) (fun b' hg => Nat.zero_le _) fun b' hg _ => ?_
            rw [t3] at hg
            cases hg
            exact ⟨a, cap, hv, by rw [t2]; exact hc, hl, fun hp => by rw [t2]; exact ha hp⟩
          · exact .fr (.dead v)
        · exact .fr (.dead v)
      · exact hf h
  | op n e i j =>
    simp only [renC]
    split
    · rename_i hn
      obtain ⟨l1, l2, l3⟩ := hlow n hn
      cases h with
      | fr h => cases h
      | op _ _ _ _ _ hb' h1 he h =>
        refine .op n e i j v l3 h1 (fun b hg => ?_) fun b hg hep => ?_
        · rw [l1] at hg
          exact he b (B.low n b hn hg).1
        · rw [l1] at hg
          obtain ⟨g2, g3⟩ := B.low n b hn hg
          rw [l2, ← g3]
          exact h b g2 hep
    · split
      · rename_i k hk
        split
        · rename_i b hbn
          split
          · rename_i hep
            obtain ⟨t1, t2, t3⟩ := hT n k b hk hbn
            have hv := h.op_inv ((hget n).trans hbn) hep
            refine .op (base + k) 0 i j v (.inr t1) (by rw [hv]; rfl) (fun b' hg => Nat.zero_le _) fun b' hg _ => ?_
            rw [t3] at hg
            cases hg
            rw [t2]
            exact hv
          · exact .fr (.dead v)
        · exact .fr (.dead v)
      · exact hf h
  | v x => exact hf h
  | sl sz es => exact hf h
  | e0 => exact hf h
  | fp cs => exact hf h
  | agg cs => exact hf h
  | tup cs => exact hf h
  | fn f cs => exact hf h
  | yl k => exact hf h
  | dead => exact hf h

theorem map_getD {α : Type} (f : α → α) (cs : List α) (i : Nat) (x : α) (hi : i < cs.length) : (cs.map f).getD i x = f (cs.getD i x) := by
  simp [List.getD_eq_getElem?_getD, hi]

theorem ren1_rel (g1 : Good C1) (B : Back C C1 lo) (hget : ∀ n, C1.get n = H.get n) (hb : blksA H lo base T d T = some bs) (hnew : ∀ n, inT base T n → ¬ C.born n) (d' : Nat)
    {x : AV} {v : Value} (h : VR C1 x v) : VR (C.back C1 base T bs) (ren1 H lo base T d' x) v := by
  have r : ∀ {x : AV} {v : Value}, VR C1 x v → VR (C.back C1 base T bs) (renC H lo base T d' x) v := fun h => renC_rel g1 B hget hb hnew d' h
  unfold ren1
  split
  · rename_i cs
    obtain ⟨vs, rfl, hl, h1, hr⟩ := h.agg_inv
    exact .agg vs (by simpa using hl) (fun i hi => h1 i (by simpa using hi)) fun i hi => by
      rw [map_getD _ _ _ _ (by simpa using hi)]; exact r (hr i (by simpa using hi))
  · rename_i f cs
    obtain ⟨vs, rfl, hl, hr⟩ := h.fn_inv
    exact .fn f vs (by simpa using hl) fun i hi => by
      rw [map_getD _ _ _ _ (by simpa using hi)]; exact r (hr i (by simpa using hi))
  · exact r h

theorem renV_rel (g1 : Good C1) (B : Back C C1 lo) (hget : ∀ n, C1.get n = H.get n) (hb : blksA H lo base T d T = some bs) (hnew : ∀ n, inT base T n → ¬ C.born n) (d' : Nat)
    {x : AV} {v : Value} (h : VR C1 x v) : VR (C.back C1 base T bs) (renV H lo base T d' x) v := by
  unfold renV
  split
  · rename_i cs
    obtain ⟨vs, rfl, hl, hr⟩ := h.tup_inv
    exact .tup vs (by simpa using hl) fun i hi => by
      rw [map_getD _ _ _ _ (by simpa using hi)]; exact ren1_rel g1 B hget hb hnew d' (hr i (by simpa using hi))
  · exact ren1_rel g1 B hget hb hnew d' h

theorem back_le (g : Good C) (g1 : Good C1) (B : Back C C1 lo) (hget : ∀ n, C1.get n = H.get n) (hb : blksA H lo base T d T = some bs) (hnew : ∀ n, inT base T n → ¬ C.born n) :
    Le C (C.back C1 base T bs) where
  os := B.os
  tape := B.tape
  output := B.output
  X := fun _ h => h
  size := B.size
  lp := fun _ _ h => h
  xkeep := B.xkeep
  keep := fun b hb' hav => ⟨(B.keep b hb' hav).1, fun h => (B.keep b hb' hav).2 (back_sub g1 B hget hb b h)⟩
  born := fun n h => .inl h
  ep := fun n b' hn hg => by
    have : ¬ inT base T n := fun h => hnew n h hn
    simp only [Ctx.back, if_neg this] at hg ⊢
    exact ⟨b', hg, Nat.le_refl _, fun _ => ⟨rfl, rfl, trivial⟩⟩

/-- What a caller's block holds, at the callee's end: the names in it are the caller's. -/
theorem shrink (g1 : Good C1) (B : Back C C1 lo) (hget : ∀ n, C1.get n = H.get n) (hb : blksA H lo base T d T = some bs) (hnew : ∀ n, inT base T n → ¬ C.born n)
    (hborn : ∀ m, C.born m → m < lo) (hlp : ∀ (k : Nat) x, C.lp[k]? = some x → C1.lp[k]? = some x) {x : AV} {v : Value} (h : VR C1 x v) :
    ∀ {v0 : Value}, VR C x v0 → VR (C.back C1 base T bs) x v := by
  have low : ∀ n, C.born n → n < lo ∧ (C.back C1 base T bs).get n = C.get n ∧ (C.back C1 base T bs).β n = C.β n := fun n hn => by
    have : ¬ inT base T n := fun h => hnew n h hn
    simp only [Ctx.back, if_neg this]
    exact ⟨hborn n hn, trivial, trivial⟩
  induction h with
  | fr h => exact fun _ => .fr (h.weak (back_sub g1 B hget hb))
  | os n e off len v hb' h1 he h =>
    intro v0 h0
    have hn : C.born n := by cases h0 with | fr h => cases h | os _ _ _ _ _ h => exact h
    obtain ⟨hlt, l1, l2⟩ := low n hn
    refine .os n e off len v (.inl hn) h1 (fun b hg => ?_) fun b hg hep => ?_
    · rw [l1] at hg
      exact he b (B.low n b hlt hg).1
    · rw [l1] at hg
      obtain ⟨g2, g3⟩ := B.low n b hlt hg
      rw [l2, ← g3]
      exact h b g2 hep
  | op n e i j v hb' h1 he h =>
    intro v0 h0
    have hn : C.born n := by cases h0 with | fr h => cases h | op _ _ _ _ _ h => exact h
    obtain ⟨hlt, l1, l2⟩ := low n hn
    refine .op n e i j v (.inl hn) h1 (fun b hg => ?_) fun b hg hep => ?_
    · rw [l1] at hg
      exact he b (B.low n b hlt hg).1
    · rw [l1] at hg
      obtain ⟨g2, g3⟩ := B.low n b hlt hg
      rw [l2, ← g3]
      exact h b g2 hep
  | yl k l r h =>
    intro v0 h0
    cases h0 with
    | fr h => cases h
    | yl _ l' r' h' =>
      have := hlp k _ h'
      rw [h] at this
      cases this
      exact .yl k l r h'
  | agg vs hl h1 _ ih =>
    intro v0 h0
    obtain ⟨us, _, hl', _, hr'⟩ := h0.agg_inv
    exact .agg vs hl h1 fun i hi => ih i hi (hr' i hi)
  | tup vs hl _ ih =>
    intro v0 h0
    obtain ⟨us, _, hl', hr'⟩ := h0.tup_inv
    exact .tup vs hl fun i hi => ih i hi (hr' i hi)
  | fn f vs hl _ ih =>
    intro v0 h0
    obtain ⟨us, _, hl', hr'⟩ := h0.fn_inv
    exact .fn f vs hl fun i hi => ih i hi (hr' i hi)

theorem back_good (g : Good C) (g1 : Good C1) (B : Back C C1 lo) (hget : ∀ n, C1.get n = H.get n) (hb : blksA H lo base T d T = some bs) (hnew : ∀ n, inT base T n → ¬ C.born n)
    (hnd : T.Nodup) (hlo : ∀ n ∈ T, lo ≤ n) : Good (C.back C1 base T bs) where
  blk := fun n b h => by
    by_cases hn : inT base T n
    · obtain ⟨m, b', e1, e2, e3, e4⟩ := back_in hb hn
      simp only [Ctx.back, if_pos hn, e4, Option.some.injEq] at h
      subst h
      have hB := g1.blk m b' ((hget m).trans e3)
      have eβ : (C.back C1 base T bs).β n = C1.β m := by simp only [Ctx.back, if_pos hn, e2]
      have ew : (C.back C1 base T bs).w = C1.w := rfl
      unfold BR at hB ⊢
      rw [eβ, ew]
      dsimp only
      split
      · rename_i s pos hit
        rw [hit] at hB
        exact hB
      · rename_i hit
        rw [hit] at hB
        obtain ⟨cs, fr, h1, h2, h3, h4, h5, h6, h7⟩ := hB
        have hrow : ∀ i, i < b'.es.length → (b'.es.map fun cs => cs.map (renC H lo base T d)).getD i [] = (b'.es.getD i []).map (renC H lo base T d) := fun i hi => map_getD _ _ _ _ hi
        refine ⟨cs, fr, h1, h2, h3, by simpa using h4, h5, fun i hi => ?_, fun i j hi hj => ?_⟩
        · rw [List.length_map] at hi
          rw [hrow i hi, List.length_map, h6 i hi]
        · rw [List.length_map] at hi
          obtain ⟨v, p1, p2, p3⟩ := h7 i j hi hj
          refine ⟨v, p1, p2, ?_⟩
          rw [hrow i hi, map_getD _ _ _ _ (by rw [h6 i hi]; exact hj)]
          exact renC_rel g1 B hget hb hnew d p3
    · simp only [Ctx.back, if_neg hn] at h
      have eβ : (C.back C1 base T bs).β n = C.β n := by simp only [Ctx.back, if_neg hn]
      rcases B.blk n b h with hh | ⟨hlt, hborn, hlp⟩
      · exact (g.blk n b h).mono (back_le g g1 B hget hb hnew) eβ hh
      · obtain ⟨k1, k2⟩ := B.low n b hlt h
        have hB := g1.blk n b k1
        have hB0 := g.blk n b h
        have ew : (C.back C1 base T bs).w = C1.w := rfl
        unfold BR at hB hB0 ⊢
        rw [eβ, ew]
        rw [k2] at hB
        split
        · rename_i s pos hit
          rw [hit] at hB
          exact hB
        · rename_i hit
          rw [hit] at hB hB0
          obtain ⟨cs, fr, h1, h2, h3, h4, h5, h6, h7⟩ := hB
          obtain ⟨cs0, fr0, _, _, _, _, _, _, q7⟩ := hB0
          refine ⟨cs, fr, h1, h2, h3, h4, h5, h6, fun i j hi hj => ?_⟩
          obtain ⟨v, p1, p2, p3⟩ := h7 i j hi hj
          obtain ⟨v0, _, _, q3⟩ := q7 i j hi hj
          exact ⟨v, p1, p2, shrink g1 B hget hb hnew hborn hlp p3 q3⟩
  inj := fun n m b c hn hm e => by
    by_cases i1 : inT base T n <;> by_cases i2 : inT base T m
    · obtain ⟨n', b', e1, e2, e3, e4⟩ := back_in hb i1
      obtain ⟨m', c', f1, f2, f3, f4⟩ := back_in hb i2
      simp only [Ctx.back, if_pos i1, if_pos i2, e2, f2] at e
      have := g1.inj n' m' b' c' ((hget _).trans e3) ((hget _).trans f3) e
      subst this
      have hk : n - base = m - base := (List.getElem?_inj (List.getElem?_eq_some_iff.1 e1).1 hnd).1 (e1.trans f1.symm)
      unfold inT at i1 i2
      omega
    · obtain ⟨n', b', e1, e2, e3, e4⟩ := back_in hb i1
      simp only [Ctx.back, if_neg i2] at hm
      simp only [Ctx.back, if_pos i1, if_neg i2, e2] at e
      exact absurd e ((B.av _ (.inr ⟨m, c, hm, rfl⟩)).2 n' b' (hlo n' (List.mem_of_getElem? e1)) ((hget _).trans e3))
    · obtain ⟨m', c', f1, f2, f3, f4⟩ := back_in hb i2
      simp only [Ctx.back, if_neg i1] at hn
      simp only [Ctx.back, if_neg i1, if_pos i2, f2] at e
      exact absurd e.symm ((B.av _ (.inr ⟨n, b, hn, rfl⟩)).2 m' c' (hlo m' (List.mem_of_getElem? f1)) ((hget _).trans f3))
    · simp only [Ctx.back, if_neg i1, if_neg i2] at hn hm e
      exact g.inj n m b c hn hm e
  notX := fun n b hn hX => by
    by_cases i1 : inT base T n
    · obtain ⟨n', b', e1, e2, e3, e4⟩ := back_in hb i1
      simp only [Ctx.back, if_pos i1, e2] at hX
      exact (B.av _ (.inl (.inl hX))).2 n' b' (hlo n' (List.mem_of_getElem? e1)) ((hget _).trans e3) rfl
    · simp only [Ctx.back, if_neg i1] at hn hX
      exact g.notX n b hn hX
  born := fun n b hn => by
    by_cases i1 : inT base T n
    · exact .inr i1
    · simp only [Ctx.back, if_neg i1] at hn
      exact .inl (g.born n b hn)
  xlt := fun b h => Nat.lt_of_lt_of_le (g.xlt b h) B.size
  lpn := g.lpn
  lp := B.lp
  lpX := fun k l r h => ⟨(g.lpX k l r h).1, fun n b hn => by
    by_cases i1 : inT base T n
    · obtain ⟨n', b', e1, e2, e3, e4⟩ := back_in hb i1
      simp only [Ctx.back, if_pos i1, e2]
      exact (B.av l (.inl (.inr ⟨k, r, h⟩))).2 n' b' (hlo n' (List.mem_of_getElem? e1)) ((hget _).trans e3)
    · simp only [Ctx.back, if_neg i1] at hn ⊢
      exact (g.lpX k l r h).2 n b hn⟩
  lpi := g.lpi
end

end Go.Am
