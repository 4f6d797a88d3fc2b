/- Parts of the proof: PPnP PPnA PPnB. -/
import Derived.Test.YtmcimfmibpfnhaaGreatPStD
import Derived.Test.YtmcimfmibpfnhaaGreatPUtA
import Derived.Test.YtmcimfmibpfnhaaGreatPEscQ
import Derived.Test.YtmcimfmibpfnhaaGreatPScr0
import Derived.Test.YtmcimfmibpfnhaaGreatPEpB
import Derived.Test.YtmcimfmibpfnhaaGreatPStE
import Derived.Test.YtmcimfmibpfnhaaGreatPScr6
import Derived.Test.YtmcimfmibpfnhaaGreatPScr12
set_option linter.all false
set_option linter.deprecated false

namespace Go.Am
variable {oc : Orc} [OrcI oc]
open Go.Proofs
set_option maxRecDepth 8000
set_option maxHeartbeats 1000000
theorem ev_out3 (s : Sc) (k r : Int) (a : List Int) : (s.ev k r a).2.length ≤ 1 := by
  have hd : ∀ t : Sc, t.dn.2.length ≤ 1 := fun t => by unfold Sc.dn; split <;> simp
  unfold Sc.ev Sc.pr Sc.ctl Sc.wrapped
  (repeat' split) <;> first | (simp; done) | exact hd _
theorem put_ok3 (w : Int) (t : List Int) (r : Int) (hr : -2147483648 ≤ r ∧ r ≤ 2147483647) (ev : Ev) (h : (put w t r).2.2 = some ev) : (∀ x ∈ ev.args, 0 ≤ x ∧ x ≤ 9999) ∧ ev.args.length < 2 ^ 40 ∧ (-2147483648 ≤ ev.r ∧ ev.r ≤ 2147483647) := by
  have key : ∀ e : Option Ev, e = some ev → (e = oscEv t ∨ e = csiEv t r ∨ e = none ∨ ∃ k, e = some ⟨k, r, [], emptyB⟩) → (∀ x ∈ ev.args, 0 ≤ x ∧ x ≤ 9999) ∧ ev.args.length < 2 ^ 40 ∧ (-2147483648 ≤ ev.r ∧ ev.r ≤ 2147483647) := by
    intro e he hc
    rcases hc with h | h | h | ⟨k, h⟩
    · rw [h] at he; unfold oscEv at he; split at he
      · cases he; simp
      · cases he
    · rw [h] at he; unfold csiEv at he; split at he
      · cases he
        dsimp only
        split
        · simp [hr]
        · exact ⟨fun x hx => csiArgs_bd t x (List.mem_of_mem_take hx), by rw [List.length_take]; omega, hr⟩
      · cases he
    · rw [h] at he; cases he
    · rw [h] at he; cases he; simp [hr]
  refine key _ h ?_
  unfold put
  (repeat' split) <;> first | exact .inl rfl | exact .inr (.inl rfl) | exact .inr (.inr (.inl rfl)) | exact .inr (.inr (.inr ⟨_, rfl⟩))
structure Pn where
  p : List Int
  w : Int
  t : List Int
  s : Sc
  old : List Rw
  lim : Int
def addRs (lim : Int) (old : List Rw) (l : List Rw) : List Rw := l.foldl (fun o r => cutR lim (o ++ [r])) old

/-- A sign. -/
def Pn.rune (x : Pn) (r : Int) : Pn × List ByteArray :=
  match (put x.w x.t r).2.2 with
  | none => ({ x with w := (put x.w x.t r).1, t := (put x.w x.t r).2.1 }, [])
  | some e => ({ x with w := (put x.w x.t r).1, t := (put x.w x.t r).2.1, s := (x.s.ev e.kind e.r e.args).1, old := addRs x.lim x.old (x.s.ev e.kind e.r e.args).2 }, if e.kind = 4 then [e.text] else [])
def Pn.runes (x : Pn) : List Int → Pn × List ByteArray
  | [] => (x, [])
  | r :: l => (((x.rune r).1.runes l).1, (x.rune r).2 ++ ((x.rune r).1.runes l).2)

/-- A byte. -/
def Pn.byte (x : Pn) (b : Int) : Pn × List ByteArray := Pn.runes { x with p := (stepU x.p b).1 } (stepU x.p b).2
def Pn.write (x : Pn) : List Int → Pn × List ByteArray
  | [] => (x, [])
  | b :: l => (((x.byte b).1.write l).1, (x.byte b).2 ++ ((x.byte b).1.write l).2)
theorem Pn.runes_app (l m : List Int) : ∀ x : Pn, x.runes (l ++ m) = (((x.runes l).1.runes m).1, (x.runes l).2 ++ ((x.runes l).1.runes m).2) := by
  induction l with
  | nil => intro x; rfl
  | cons r l ih =>
    intro x
    show (((x.rune r).1.runes (l ++ m)).1, (x.rune r).2 ++ ((x.rune r).1.runes (l ++ m)).2) = _
    rw [ih, ← List.append_assoc]; rfl
theorem Pn.write_app (l m : List Int) : ∀ x : Pn, x.write (l ++ m) = (((x.write l).1.write m).1, (x.write l).2 ++ ((x.write l).1.write m).2) := by
  induction l with
  | nil => intro x; rfl
  | cons r l ih =>
    intro x
    show (((x.byte r).1.write (l ++ m)).1, (x.byte r).2 ++ ((x.byte r).1.write (l ++ m)).2) = _
    rw [ih, ← List.append_assoc]; rfl
theorem Pn.runes_snoc (x : Pn) (l : List Int) (r : Int) : x.runes (l ++ [r]) = (((x.runes l).1.rune r).1, (x.runes l).2 ++ ((x.runes l).1.rune r).2) := by
  rw [Pn.runes_app]
  show (_, _ ++ (_ ++ [])) = _
  rw [List.append_nil]; rfl
theorem Pn.write_snoc (x : Pn) (l : List Int) (r : Int) : x.write (l ++ [r]) = (((x.write l).1.byte r).1, (x.write l).2 ++ ((x.write l).1.byte r).2) := by
  rw [Pn.write_app]
  show (_, _ ++ (_ ++ [])) = _
  rw [List.append_nil]; rfl

/-- In good order; b: how long the parser's text may be. -/
structure PnG (x : Pn) (b : Nat) : Prop where
  sg : ScG x.s
  pend : PendU x.p
  tl : x.t.length ≤ b
  tr : ∀ c ∈ x.t, -2147483648 ≤ c ∧ c ≤ 2147483647
  l0 : 0 ≤ x.lim
  l1 : x.lim ≤ 1000000
  ol : (x.old.length : Int) ≤ x.lim
theorem cutR_len (lim : Int) (h : 0 ≤ lim) (l : List Rw) : ((cutR lim l).length : Int) ≤ lim := by unfold cutR; rw [List.length_drop]; omega
theorem addRs_len {lim : Int} (h : 0 ≤ lim) (l : List Rw) : ∀ old : List Rw, (old.length : Int) ≤ lim → ((addRs lim old l).length : Int) ≤ lim := by
  induction l with
  | nil => intro old h; exact h
  | cons r l ih => intro old _; exact ih _ (cutR_len lim h _)
theorem PnG.rune {x : Pn} {b : Nat} (h : PnG x b) {r : Int} (hr : -2147483648 ≤ r ∧ r ≤ 2147483647) : PnG (x.rune r).1 (b + 1) := by
  have h1 : (put x.w x.t r).2.1.length ≤ b + 1 := by have := put_len x.w x.t r; have := h.tl; omega
  have h2 : ∀ c ∈ (put x.w x.t r).2.1, -2147483648 ≤ c ∧ c ≤ 2147483647 := fun c hc => by
    rcases put_mem x.w x.t r c hc with z | z
    · exact h.tr c z
    · rw [z]; exact hr
  unfold Pn.rune
  split
  · exact ⟨h.sg, h.pend, h1, h2, h.l0, h.l1, h.ol⟩
  · rename_i e he
    obtain ⟨q1, q2, q3⟩ := put_ok3 x.w x.t r hr e he
    exact ⟨(h.sg.ev e.kind e.r q3 fun y hy => (q1 y hy).1).1, h.pend, h1, h2, h.l0, h.l1, addRs_len h.l0 _ _ h.ol⟩
theorem PnG.runes {b : Nat} (l : List Int) (hl : ∀ r ∈ l, -2147483648 ≤ r ∧ r ≤ 2147483647) : ∀ (x : Pn) (b : Nat), PnG x b → PnG (x.runes l).1 (b + l.length) := by
  induction l with
  | nil => intro x b h; exact h
  | cons r l ih =>
    intro x b h
    have := ih (fun y hy => hl y (List.mem_cons_of_mem _ hy)) (x.rune r).1 (b + 1) (h.rune (hl r List.mem_cons_self))
    rw [List.length_cons, show b + (l.length + 1) = b + 1 + l.length by omega]
    exact this
theorem startU_out {b : Int} (h : 0 ≤ b ∧ b ≤ 255) : (startU b).2.length ≤ 1 ∧ ∀ r ∈ (startU b).2, 0 ≤ r ∧ r ≤ 8388607 := by
  unfold startU
  (repeat' split) <;> simp <;> omega
theorem stepU_out {p : List Int} (hp : PendU p) {b : Int} (h : 0 ≤ b ∧ b ≤ 255) : (stepU p b).2.length ≤ 2 ∧ ∀ r ∈ (stepU p b).2, 0 ≤ r ∧ r ≤ 8388607 := by
  obtain ⟨h1, h2⟩ := startU_out h
  unfold stepU
  split
  · exact ⟨by omega, h2⟩
  · rename_i hn
    split
    · split
      · refine ⟨by simp, fun r hr => ?_⟩
        rw [List.mem_singleton] at hr
        have := valU_range hp hn
        rw [hr, valU_snoc hn]; omega
      · simp
    · refine ⟨by simp; omega, fun r hr => ?_⟩
      rcases List.mem_cons.1 hr with rfl | hr
      · omega
      · exact h2 r hr
theorem PnG.p {x : Pn} {b : Nat} (h : PnG x b) {p : List Int} (hp : PendU p) : PnG { x with p := p } b := ⟨h.sg, hp, h.tl, h.tr, h.l0, h.l1, h.ol⟩
theorem PnG.mono {x : Pn} {b c : Nat} (h : PnG x b) (hc : b ≤ c) : PnG x c := ⟨h.sg, h.pend, Nat.le_trans h.tl hc, h.tr, h.l0, h.l1, h.ol⟩
theorem PnG.byte {x : Pn} {b : Nat} (h : PnG x b) {c : Int} (hc : 0 ≤ c ∧ c ≤ 255) : PnG (x.byte c).1 (b + 2) := by
  obtain ⟨h1, h2⟩ := stepU_out h.pend hc
  exact (PnG.runes (b := b) (stepU x.p c).2 (fun r hr => by have := h2 r hr; omega) _ b (h.p (stepU_pend h.pend c))).mono (by omega)
theorem PnG.write (l : List Int) (hl : ∀ c ∈ l, 0 ≤ c ∧ c ≤ 255) : ∀ (x : Pn) (b : Nat), PnG x b → PnG (x.write l).1 (b + 2 * l.length) := by
  induction l with
  | nil => intro x b h; exact h
  | cons c l ih =>
    intro x b h
    have := ih (fun y hy => hl y (List.mem_cons_of_mem _ hy)) (x.byte c).1 (b + 2) (h.byte (hl c List.mem_cons_self))
    rw [List.length_cons, show b + 2 * (l.length + 1) = b + 2 + 2 * l.length by omega]
    exact this
end Go.Am

namespace Go.Am
variable {oc : Orc} [OrcI oc] [OrcF oc]
open Go.Proofs
set_option maxRecDepth 8000
set_option maxHeartbeats 8000000

/-- From one heap to another: what may be turned; what may be turned then. -/
structure Kp (H H' : AHeap) (O O' : Nat → Prop) : Prop where
  next : H.next ≤ H'.next
  js : H'.js = H.js
  keep : ∀ k, k < H.next → ¬ O k → H'.get k = H.get k
  gr : ∀ k, O' k → O k ∨ H.next ≤ k
theorem Kp.refl (H : AHeap) (O : Nat → Prop) : Kp H H O O := ⟨Nat.le_refl _, rfl, fun _ _ _ => rfl, fun _ h => .inl h⟩
theorem Kp.trans {H H1 H2 : AHeap} {O O1 O2 : Nat → Prop} (h : Kp H H1 O O1) (k : Kp H1 H2 O1 O2) : Kp H H2 O O2 := by
  have := h.next
  refine ⟨Nat.le_trans h.next k.next, k.js.trans h.js, fun i hi ho => ?_, fun i hi => ?_⟩
  · rw [k.keep i (by omega) (fun z => by rcases h.gr i z with y | y; exact ho y; omega), h.keep i hi ho]
  · rcases k.gr i hi with y | y
    · exact h.gr i y
    · right; omega
theorem Kp.push {H H1 : AHeap} {O O1 : Nat → Prop} (h : Kp H H1 O O1) (b : Blk) : Kp H (H1.push b) O O1 := by
  have := h.next
  exact ⟨by rw [next_push]; omega, h.js, fun i hi ho => by rw [get_push, if_neg (by omega), h.keep i hi ho], h.gr⟩
theorem Kp.turn {H H1 : AHeap} {O O1 : Nat → Prop} (h : Kp H H1 O O1) : Turn O H H1 := ⟨h.next, h.js, h.keep⟩
theorem Kp.slh {H H1 : AHeap} {O O1 : Nat → Prop} (h : Kp H H1 O O1) {sz : Nat} {x : AV} {es : List (List AV)} (hx : SlH H sz x es) (hn : ∀ k, nmO x k → ¬ O k) : SlH H1 sz x es := hx.turn h.turn hn
structure PC (H : AHeap) (F G : Nat → Prop) (C : UC) (A X : AV) (any sp : Bool) (sm se n : Nat) (x : Pn) : Prop where
  u : URp C x.p
  p : PE C H F n x.w x.t A any sp X
  s : SP 127 0 H C.sn sm se x.s
  h : ST H G C.hn x.lim x.old
  fl : ∀ k, F k → k < H.next
  d1 : ¬ F C.sn
  d2 : ¬ F sm
  d3 : ¬ G C.sn
  d4 : ¬ G sm
  d5 : ∀ k, F k → ¬ G k
def ownP (F G : Nat → Prop) (sn sm : Nat) (k : Nat) : Prop := F k ∨ k = sn ∨ k = sm ∨ G k
section
variable {H H' : AHeap} {F G : Nat → Prop} {C : UC} {A X : AV} {any sp : Bool} {sm se n : Nat} {x : Pn}
theorem PC.lt (h : PC H F G C A X any sp sm se n x) : ∀ k, ownP F G C.sn sm k → k < H.next := by
  rintro k (z | rfl | rfl | z)
  · exact h.fl k z
  · exact h.s.nn
  · exact h.s.mn
  · exact h.h.lt k z
theorem OwnS.turn1 {el sz m : Nat} {y : AV} {es : List (List AV)} {b : Blk} (h : OwnS H F el sz y es) (ht : Turn (fun k => k = m) H H') (hb : H.get m = some b) (hne : b.elem ≠ el) : OwnS H' F el sz y es := by
  rcases h with h | ⟨k, e, rfl, h1, h2, h3⟩
  · exact .inl h
  · refine .inr ⟨k, e, rfl, h1, Nat.lt_of_lt_of_le h2 ht.next, ?_⟩
    rw [ht.keep k h2 (by rintro rfl; rw [hb] at h3; cases h3; exact hne rfl)]; exact h3
theorem SP.turn2 {T lo m e : Nat} {s : Sc} {O : Nat → Prop} (h : SP T lo H n m e s) (f : Turn O H H') (hn : ¬ O n) (hm : ¬ O m) : SP T lo H' n m e s :=
  ⟨h.nl, h.ml, Nat.lt_of_lt_of_le h.nn f.next, Nat.lt_of_lt_of_le h.mn f.next, h.ne, by rw [f.keep n h.nn hn]; exact h.blk, by rw [f.keep m h.mn hm]; exact h.rows⟩
theorem PC.push (h : PC H F G C A X any sp sm se n x) (b : Blk) : PC (H.push b) F G C A X any sp sm se n x :=
  ⟨h.u, h.p.keep (fun _ z => z) (by (first | omega | (simp only [next_push, next_set, next_empty]; done) | (simp only [next_push, next_set, next_empty]; omega))) (fun k _ hk => by rw [get_push, if_neg (by omega)]), h.s.ext ((Ext.refl _).push b), h.h.ext ((Ext.refl _).push b), fun k hk => by have := h.fl k hk; (first | omega | (simp only [next_push, next_set, next_empty]; done) | (simp only [next_push, next_set, next_empty]; omega)), h.d1, h.d2, h.d3, h.d4, h.d5⟩
theorem PC.ext (h : PC H F G C A X any sp sm se n x) (hx : Ext H H') : PC H' F G C A X any sp sm se n x :=
  ⟨h.u, h.p.keep (fun _ z => z) hx.next (fun k _ hk => hx.get k hk), h.s.ext hx, h.h.ext hx, fun k hk => Nat.lt_of_lt_of_le (h.fl k hk) hx.next, h.d1, h.d2, h.d3, h.d4, h.d5⟩

/-- The pane's own names untouched. -/
theorem PC.off {O : Nat → Prop} (h : PC H F G C A X any sp sm se n x) (t : Turn O H H') (hd : ∀ k, ownP F G C.sn sm k → ¬ O k) : PC H' F G C A X any sp sm se n x :=
  ⟨h.u, h.p.keep (fun _ z => z) t.next (fun k hk hl => t.keep k hl (hd k (.inl hk))), h.s.turn2 t (hd _ (.inr (.inl rfl))) (hd _ (.inr (.inr (.inl rfl)))), h.h.turn t (fun k hk => hd k (.inr (.inr (.inr hk)))), fun k hk => Nat.lt_of_lt_of_le (h.fl k hk) t.next, h.d1, h.d2, h.d3, h.d4, h.d5⟩
theorem PC.utf {p' : List Int} {R : AV} {l : List Int} (h : PC H F G C A X any sp sm se n x) (hU : UTn C H n x.w A any sp X H' p' R l) : ∃ C' : UC, C'.sn = C.sn ∧ C'.hn = C.hn ∧ PC H' F G C' A X any sp sm se n { x with p := p' } ∧ Kp H H' (ownP F G C.sn sm) (ownP F G C'.sn sm) := by
  obtain ⟨⟨C', q1, q2, q3, q4⟩, q5, q6⟩ := hU
  have hFn := h.p.own
  have hn1 : ¬ C.sn = n := fun z => h.d1 (z ▸ hFn)
  have hn2 : ¬ sm = n := fun z => h.d2 (z ▸ hFn)
  have hn3 : ∀ k, G k → ¬ k = n := fun k hk z => h.d5 n hFn (z ▸ hk)
  refine ⟨C', q2, q3, ⟨q1, ?_, ?_, ?_, fun k hk => Nat.lt_of_lt_of_le (h.fl k hk) q5.next, by rw [q2]; exact h.d1, h.d2, by rw [q2]; exact h.d3, h.d4, h.d5⟩, ?_⟩
  · exact ⟨h.p.own, Nat.lt_of_lt_of_le h.p.lt q5.next, q4, h.p.ca, h.p.cx, h.p.w4, fun hw => ⟨(h.p.csi hw).1.turn1 q5 h.p.blk (Nat.ne_of_beq_eq_false rfl), (h.p.csi hw).2⟩, fun hw => ⟨(h.p.osc hw).1, fun hs => ((h.p.osc hw).2 hs).turn1 q5 h.p.blk (Nat.ne_of_beq_eq_false rfl)⟩⟩
  · rw [q2]; exact h.s.turn2 q5 hn1 hn2
  · rw [q3]; exact h.h.turn q5 hn3
  · exact ⟨q5.next, q5.js, fun k hk ho => q5.keep k hk (fun z => ho (.inl (z ▸ hFn))), fun k hk => .inl (by rw [q2] at hk; exact hk)⟩
theorem PC.put {A' X' : AV} {any' sp' : Bool} {w' : Int} {t' : List Int} (h : PC H F G C A X any sp sm se n x) (ht : Turn F H H') (hP : PE C H' (grow F H H') n w' t' A' any' sp' X') : PC H' (grow F H H') G C A' X' any' sp' sm se n { x with w := w', t := t' } ∧ Kp H H' (ownP F G C.sn sm) (ownP (grow F H H') G C.sn sm) := by
  have a1 := h.s.nn
  have a2 := h.s.mn
  refine ⟨⟨h.u, hP, h.s.turn2 ht h.d1 h.d2, h.h.turn ht (fun k hk z => h.d5 k z hk), ?_, ?_, ?_, h.d3, h.d4, ?_⟩, ht.next, ht.js, fun k hk ho => ht.keep k hk (fun z => ho (.inl z)), ?_⟩
  · rintro k (z | ⟨_, z⟩)
    · exact Nat.lt_of_lt_of_le (h.fl k z) ht.next
    · exact z
  · rintro (z | ⟨z, _⟩)
    · exact h.d1 z
    · omega
  · rintro (z | ⟨z, _⟩)
    · exact h.d2 z
    · omega
  · rintro k (z | ⟨z, _⟩) hg
    · exact h.d5 k z hg
    · have := h.h.lt k hg; omega
  · rintro k ((z | ⟨z, _⟩) | z)
    · exact .inl (.inl z)
    · exact .inr z
    · exact .inl (.inr z)
theorem PC.scr {m' e' : Nat} {s' : Sc} (h : PC H F G C A X any sp sm se n x) (hS : SP 127 0 H' C.sn m' e' s') (hF : Fr H H' C.sn sm m') : PC H' F G C A X any sp m' e' n { x with s := s' } ∧ Kp H H' (ownP F G C.sn sm) (ownP F G C.sn m') := by
  have ht : Turn (fun k => k = C.sn ∨ k = sm) H H' := ⟨hF.next, hF.js, fun k hk ho => hF.keep k hk (fun z => ho (.inl z)) (fun z => ho (.inr z))⟩
  have hm' : m' = sm ∨ H.next ≤ m' := hF.nw
  refine ⟨⟨h.u, h.p.keep (fun _ z => z) hF.next (fun k hk hl => hF.keep k hl (fun z => h.d1 (z ▸ hk)) (fun z => h.d2 (z ▸ hk))), hS, h.h.turn ht (by rintro k hk (z | z); exact h.d3 (z ▸ hk); exact h.d4 (z ▸ hk)), fun k hk => Nat.lt_of_lt_of_le (h.fl k hk) hF.next, h.d1, ?_, h.d3, ?_, h.d5⟩, hF.next, hF.js, fun k hk ho => hF.keep k hk (fun z => ho (.inr (.inl z))) (fun z => ho (.inr (.inr (.inl z)))), ?_⟩
  · intro z
    rcases hm' with y | y
    · exact h.d2 (y ▸ z)
    · have := h.fl _ z; omega
  · intro z
    rcases hm' with y | y
    · exact h.d4 (y ▸ z)
    · have := h.h.lt _ z; omega
  · rintro k (z | z | z | z)
    · exact .inl (.inl z)
    · exact .inl (.inr (.inl z))
    · rcases hm' with y | y
      · exact .inl (.inr (.inr (.inl (z.trans y))))
      · right; omega
    · exact .inl (.inr (.inr (.inr z)))
theorem PC.add {old' : List Rw} {lim' : Int} (h : PC H F G C A X any sp sm se n x) (hT : ST H' (grow G H H') C.hn lim' old') (ht : Turn G H H') : PC H' F (grow G H H') C A X any sp sm se n { x with old := old', lim := lim' } ∧ Kp H H' (ownP F G C.sn sm) (ownP F (grow G H H') C.sn sm) := by
  have a1 := h.s.nn
  have a2 := h.s.mn
  refine ⟨⟨h.u, h.p.keep (fun _ z => z) ht.next (fun k hk hl => ht.keep k hl (h.d5 k hk)), h.s.turn2 ht h.d3 h.d4, hT, fun k hk => Nat.lt_of_lt_of_le (h.fl k hk) ht.next, h.d1, h.d2, ?_, ?_, ?_⟩, ht.next, ht.js, fun k hk ho => ht.keep k hk (fun z => ho (.inr (.inr (.inr z)))), ?_⟩
  · rintro (z | ⟨z, _⟩)
    · exact h.d3 z
    · omega
  · rintro (z | ⟨z, _⟩)
    · exact h.d4 z
    · omega
  · rintro k hf (z | ⟨z, _⟩)
    · exact h.d5 k hf z
    · have := h.fl k hf; omega
  · rintro k (z | z | z | (z | ⟨z, _⟩))
    · exact .inl (.inl z)
    · exact .inl (.inr (.inl z))
    · exact .inl (.inr (.inr (.inl z)))
    · exact .inl (.inr (.inr (.inr z)))
    · exact .inr z
end

/-- A pane at n; its names are U's. -/
structure PV (H : AHeap) (U : Nat → Prop) (n : Nat) (x : Pn) : Prop where
  ex : ∃ F G C A X any sp sm se, PC H F G C A X any sp sm se n x ∧ ∀ k, ownP F G C.sn sm k → U k
  lt : ∀ k, U k → k < H.next
theorem PV.off {H H' : AHeap} {U O : Nat → Prop} {n : Nat} {x : Pn} (h : PV H U n x) (t : Turn O H H') (hd : ∀ k, U k → ¬ O k) : PV H' U n x := by
  obtain ⟨F, G, C, A, X, any, sp, sm, se, h1, h2⟩ := h.ex
  exact ⟨⟨F, G, C, A, X, any, sp, sm, se, h1.off t fun k hk => hd k (h2 k hk), h2⟩, fun k hk => Nat.lt_of_lt_of_le (h.lt k hk) t.next⟩
theorem PV.kp {H0 H : AHeap} {U : Nat → Prop} {F G : Nat → Prop} {C : UC} {A X : AV} {any sp : Bool} {sm se n : Nat} {x : Pn} (h : PC H F G C A X any sp sm se n x) (hk : Kp H0 H U (ownP F G C.sn sm)) (hl : ∀ k, U k → k < H0.next) : PV H (grow U H0 H) n x ∧ Turn U H0 H := by
  refine ⟨⟨⟨F, G, C, A, X, any, sp, sm, se, h, fun k hk2 => ?_⟩, ?_⟩, hk.turn⟩
  · rcases hk.gr k hk2 with z | z
    · exact .inl z
    · exact .inr ⟨z, h.lt k hk2⟩
  · rintro k (z | ⟨_, z⟩)
    · exact Nat.lt_of_lt_of_le (hl k z) hk.next
    · exact z
end Go.Am

namespace Go.Am
variable {oc : Orc} [OrcI oc] [OrcF oc]
open Go.Proofs
set_option maxRecDepth 8000
set_option maxHeartbeats 8000000
def Pn.new (w h l : Int) : Pn := ⟨[], 0, [], Sc.new (min (max w 2) 300) (min (max h 1) 100), [], min (max l 0) 1000000⟩
theorem PnG.new (w h l : Int) : PnG (Pn.new w h l) 0 := ⟨ScG.new2 w h, .inl rfl, Nat.le_refl _, fun c hc => (by cases hc), by show 0 ≤ min (max l 0) 1000000; omega, by show min (max l 0) 1000000 ≤ 1000000; omega, by show (0 : Int) ≤ min (max l 0) 1000000; omega⟩

/-- A text's bytes. -/
def byL (s : ByteArray) : List Int := s.data.toList.map fun b => (b.toNat : Int)
theorem byL_len (s : ByteArray) : (byL s).length = s.size := by unfold byL; rw [List.length_map]; rfl
theorem byL_at (s : ByteArray) (i : Nat) (h : i < s.size) : (byL s).getD i 0 = ((s.data.toList.getD i 0).toNat : Int) := by
  have h' : i < s.data.toList.length := h
  unfold byL
  rw [List.getD_eq_getElem?_getD, List.getElem?_map, List.getD_eq_getElem?_getD, List.getElem?_eq_getElem h']; rfl
theorem byL_bd (s : ByteArray) : ∀ c ∈ byL s, 0 ≤ c ∧ c ≤ 255 := fun c hc => by
  unfold byL at hc
  obtain ⟨b, _, rfl⟩ := List.mem_map.1 hc
  exact byte_range b
def strsE (l : List ByteArray) : List (List AV) := l.map fun s => [.v (.string s)]
theorem strsE_len (l : List ByteArray) : (strsE l).length = l.length := List.length_map _
theorem strsE_app (a b : List ByteArray) : strsE (a ++ b) = strsE a ++ strsE b := List.map_append
theorem app_str : appInfo (ELo oc).P 65 = some (9, 16, 1) := by kernel_rfl
theorem Pn.rune_none {x : Pn} {r : Int} (h : (put x.w x.t r).2.2 = none) : x.rune r = ({ x with w := (put x.w x.t r).1, t := (put x.w x.t r).2.1 }, []) := by unfold Pn.rune; rw [h]
theorem Pn.rune_some {x : Pn} {r : Int} {e : Ev} (h : (put x.w x.t r).2.2 = some e) : x.rune r = ({ x with w := (put x.w x.t r).1, t := (put x.w x.t r).2.1, s := (x.s.ev e.kind e.r e.args).1, old := addRs x.lim x.old (x.s.ev e.kind e.r e.args).2 }, if e.kind = 4 then [e.text] else []) := by unfold Pn.rune; rw [h]
theorem Pn.rune_len (x : Pn) (r : Int) : (x.rune r).2.length ≤ 1 := by
  unfold Pn.rune
  split
  · simp
  · dsimp only; split <;> simp
theorem Pn.runes_len (l : List Int) : ∀ x : Pn, (x.runes l).2.length ≤ l.length := by
  induction l with
  | nil => intro x; exact Nat.le_refl _
  | cons r l ih =>
    intro x
    show ((x.rune r).2 ++ ((x.rune r).1.runes l).2).length ≤ _
    have h1 := ih (x.rune r).1
    have h2 := x.rune_len r
    rw [List.length_append, List.length_cons]; omega
theorem Pn.write_len (l : List Int) (hl : ∀ c ∈ l, 0 ≤ c ∧ c ≤ 255) : ∀ (x : Pn) (b : Nat), PnG x b → (x.write l).2.length ≤ 2 * l.length := by
  induction l with
  | nil => intro x b _; exact Nat.le_refl _
  | cons r l ih =>
    intro x b h
    show ((x.byte r).2 ++ ((x.byte r).1.write l).2).length ≤ _
    have hr := hl r List.mem_cons_self
    have h1 := ih (fun c hc => hl c (List.mem_cons_of_mem _ hc)) (x.byte r).1 (b + 2) (h.byte hr)
    have h2 := Pn.runes_len (stepU x.p r).2 { x with p := (stepU x.p r).1 }
    have h3 := (stepU_out h.pend hr).1
    have h4 : (x.byte r).2.length ≤ (stepU x.p r).2.length := h2
    rw [List.length_append, List.length_cons]; omega

/-- From heap to heap, with what is not the pane's. -/
theorem Kp.stp {H0 H H3 : AHeap} {U O O' Z : Nat → Prop} {o : AV} {es : List (List AV)} {el sz : Nat} (hK : Kp H0 H U O) (hK3 : Kp H H3 O O') (hO : OwS H H0.next el sz o es) (hZ : ∀ k, nmO o k ∨ Z k → ¬ O k ∧ k < H.next) : OwS H3 H0.next el sz o es ∧ (∀ k, nmO o k ∨ Z k → ¬ O' k ∧ k < H3.next) ∧ Kp H0 H3 U O' := by
  have h1 := hK3.next
  refine ⟨hO.onN h1 fun k hk => hK3.keep k (hZ k (.inl hk)).2 (hZ k (.inl hk)).1, fun k hk => ⟨fun z => ?_, Nat.lt_of_lt_of_le (hZ k hk).2 h1⟩, hK.trans hK3⟩
  rcases hK3.gr k z with y | y
  · exact (hZ k hk).1 y
  · have := (hZ k hk).2; omega
theorem push1j (E : Env) (lo : Nat) {H : AHeap} {t elem bytes sz base : Nat} {x : AV} {es : List (List AV)} (ho : OwS H base elem sz x es) (h : appInfo E.P t = some (elem, bytes, sz)) (hlo : lo ≤ base) (hbn : base ≤ H.next) (hr : (es.length + 1) * bytes ≤ roomMax) (cs : List AV) : ∃ x' H' tr, primL lo (H.push ⟨elem, sz, 0, [cs], none⟩) (appendA E t x (.os H.next 0 0 1)) = some (x', H', tr) ∧ OwS H' base elem sz x' (es ++ [cs]) ∧ Turn (nmO x) H H' ∧ ∀ k, nmO x' k → (nmO x k ∨ H.next ≤ k) ∧ k < H'.next := by
  obtain ⟨A', H3, tr3, h1, h2, h3, h4, hj, h5⟩ := (ho.push ⟨elem, sz, 0, [cs], none⟩).addN E lo h (y := .os H.next 0 0 1) (new := [cs]) (.inr ⟨H.next, 0, 0, _, rfl, by rw [next_push]; omega, by rw [get_push, if_pos rfl], rfl, rfl, rfl, by simp, rfl⟩) (fun k hk hk2 => by
    obtain ⟨_, _, _, e⟩ := hk2
    cases e
    have := ho.nm hk; omega) hlo (by rw [next_push]; omega) (by simpa using hr)
  rw [next_push] at h3 h4 h5
  refine ⟨A', H3, tr3, h1, h2, ⟨by omega, hj, fun k hk hk2 => by rw [h4 k (by omega) hk2, get_push, if_neg (by omega)]⟩, fun k hk => ⟨?_, (h2.nm hk).2⟩⟩
  rcases h5 k hk with z | z
  · exact .inl z
  · exact .inr (by omega)

/-- A list more. -/
theorem Kp.app {H0 H H' : AHeap} {U O Z : Nat → Prop} {o o' : AV} (hK : Kp H0 H U O) (ht : Turn (nmO o) H H') (hb : ∀ k, nmO o k → H0.next ≤ k) (hZ : ∀ k, nmO o k ∨ Z k → ¬ O k ∧ k < H.next) (hl : ∀ k, O k → k < H.next) (hn : ∀ k, nmO o' k → (nmO o k ∨ H.next ≤ k) ∧ k < H'.next) : Kp H0 H' U O ∧ ∀ k, nmO o' k ∨ Z k → ¬ O k ∧ k < H'.next := by
  refine ⟨⟨Nat.le_trans hK.next ht.next, ht.js.trans hK.js, fun k hk hu => ?_, hK.gr⟩, ?_⟩
  · have := hK.next
    rw [ht.keep k (by omega) (fun z => by have := hb k z; omega)]; exact hK.keep k hk hu
  · rintro k (z | z)
    · refine ⟨fun y => ?_, (hn k z).2⟩
      rcases (hn k z).1 with q | q
      · exact (hZ k (.inl q)).1 y
      · have := hl k y; omega
    · exact ⟨(hZ k (.inr z)).1, Nat.lt_of_lt_of_le (hZ k (.inr z)).2 ht.next⟩
theorem rwOk_of {w : Int} {r : Rw} (h : RwG w r) (hw : 2 ≤ w) : rwOk r := ⟨h.1, fun z => by have := h.2.2; rw [z] at this; simp at this; omega⟩
section
variable {ys : List (Nat × LRec)} {H : AHeap} {n : Nat} {x : Pn} {U : Nat → Prop}
theorem paneNew_run (w h l : Int) : CallE (ELo oc) ys 0 45 [.v (.int .i64 w), .v (.int .i64 h), .v (.int .i64 l)] H fun R H' => ∃ m, R = .op m 0 0 0 ∧ PV H' (fun k => H.next ≤ k ∧ k < H'.next) m (Pn.new w h l) ∧ Ext H H' ∧ H'.js = H.js := by
  refine WC.effE rfl ?_
  have hN := fun ys => New_run (ys := ys) (lo := 0) (H := H) w h
  have hS := fun ys G => storeNew_run (ys := ys) (lo := 0) (H := G) l
  have hsp := SP.of (T := 127) (H := H) (Nat.zero_le _) (Sc.new (min (max w 2) 300) (min (max h 1) 100)) rfl
  have hG := PnG.new w h l
  unfold Pn.new at hG ⊢
  generalize Sc.new (min (max w 2) 300) (min (max h 1) 100) = s at *
  refine zvin Tryz.func45 Tryz.ntmps45 ?_
  repeat' (first | refine zka ?_ | refine zkb ?_ | (apply RKp.op; ((try simp (disch := (first | exact zQ | fail)) only [go_sem]); exact zL); rfl) | (apply RKp.callN; ((first | apply hN | apply hS) <;> (exact zD)); rfl; intro tr htr) | refine zkc ?_ | refine zz ?_ | refine zkd ?_ | refine zke ?_ | refine zkf ?_ | (refine RKg.split (fun h => ?_) (fun h => ?_) <;> (try rw [h]) <;> (replace h := zB h) <;> (try (exfalso; first | exact h | omega))) | refine zbt ?_ | apply V.regK | refine zvd ?_ | refine zve ?_ | (refine zvf (fun h => ?_) (fun h => ?_) <;> (replace h := zB h) <;> (try (exfalso; first | exact h | omega))) | (refine zfc Tryz.results45 ?_; (try dsimp only)))
  generalize hH2 : ((H.push (⟨127, 6, 0, [[.v (.int .i64 s.w), .v (.int .i64 s.h), .os (H.next + 1) 0 0 s.rows.length, .v (.int .i64 s.row), .v (.int .i64 s.col), .v (.int .i64 s.attr)]], none⟩ : Blk)).push ⟨48, 2, 0, rowsA s.rows, none⟩) = H2 at *
  have e2 : H2.next = H.next + 1 + 1 := by rw [← hH2]; rfl
  have x2 : Ext H H2 := by rw [← hH2]; exact ((Ext.refl _).push _).push _
  have j2 : H2.js = H.js := by rw [← hH2]; rfl
  rw [← e2]
  have hst := ST.new (H := H2) l
  refine ⟨H2.next + 1, rfl, ⟨⟨fun k => k = H2.next + 1, fun k => k = H2.next, ⟨0, 0, 0, 0, 0, H.next, H2.next⟩, nilA, nilA, false, false, H.next + 1, 0, ⟨URp.nil rfl, ⟨rfl, by (first | omega | (simp only [next_push, next_set, next_empty]; done) | (simp only [next_push, next_set, next_empty]; omega)), by rw [get_push, if_pos (by (first | omega | (simp only [next_push, next_set, next_empty]; done) | (simp only [next_push, next_set, next_empty]; omega)))]; rfl, rfl, rfl, .inl rfl, fun z => (by have z : (0 : Int) = 2 := z; omega), fun z => (by have z : (0 : Int) = 3 ∨ (0 : Int) = 4 := z; omega)⟩, hsp.ext (((Ext.refl _).push _).push _), hst.ext ((Ext.refl _).push _), fun k hk => by (first | omega | (simp only [next_push, next_set, next_empty]; done) | (simp only [next_push, next_set, next_empty]; omega)), by show ¬ H.next = H2.next + 1; omega, by omega, by show ¬ H.next = H2.next; omega, by omega, fun k h1 h2 => by omega⟩, ?_⟩, fun k hk => hk.2⟩, (x2.push _).push _, j2⟩
  rintro k (z | z | z | z)
  · exact ⟨by omega, by (first | omega | (simp only [next_push, next_set, next_empty]; done) | (simp only [next_push, next_set, next_empty]; omega))⟩
  · have z : k = H.next := z
    exact ⟨by omega, by (first | omega | (simp only [next_push, next_set, next_empty]; done) | (simp only [next_push, next_set, next_empty]; omega))⟩
  · exact ⟨by omega, by (first | omega | (simp only [next_push, next_set, next_empty]; done) | (simp only [next_push, next_set, next_empty]; omega))⟩
  · exact ⟨by omega, by (first | omega | (simp only [next_push, next_set, next_empty]; done) | (simp only [next_push, next_set, next_empty]; omega))⟩
end
end Go.Am
