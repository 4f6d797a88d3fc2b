/- Screens fed by the document's parser. -/
import Derived.Test.YtoeemmlfcnokiaaGreatScr6
import Derived.Test.YtoeemmlfcnokiaaGreatScr10
import Derived.Test.YtoeemmlfcnokiaaGreatScr12
import Derived.Test.YtoeemmlfcnokiaaGreatEsc4
import Derived.Test.YtoeemmlfcnokiaaGreatUtf1
set_option linter.all false
set_option linter.deprecated false
namespace Go.Am
open Go.Proofs
set_option maxRecDepth 8000
set_option maxHeartbeats 4000000
/-- The document's parser, at p; F: the names that are its own. -/
structure PQ (H : AHeap) (p : Nat) (w : Int) (t : List Int) (F : Nat → Prop) : Prop where
  rp : ∃ T, RP H F p w t T
  fl : ∀ k, F k → k < H.next
theorem PQ.own {H : AHeap} {p : Nat} {w : Int} {t : List Int} {F : Nat → Prop} (h : PQ H p w t F) : F p := h.rp.choose_spec.own
theorem PQ.fr {H H1 : AHeap} {p n m m1 : Nat} {w : Int} {t : List Int} {F : Nat → Prop} (h : PQ H p w t F) (f : Fr H H1 n m m1) (hn : ¬ F n) (hm : ¬ F m) : PQ H1 p w t F := by
  obtain ⟨⟨T, hT⟩, hF⟩ := h
  exact ⟨⟨T, hT.keep (fun k hk => hk) f.next fun k hk hl => f.keep k hl (fun e => hn (e ▸ hk)) fun e => hm (e ▸ hk)⟩, fun k hk => Nat.lt_of_lt_of_le (hF k hk) f.next⟩
theorem PQ.ext {H H1 : AHeap} {p : Nat} {w : Int} {t : List Int} {F : Nat → Prop} (h : PQ H p w t F) (f : Ext H H1) : PQ H1 p w t F := by
  obtain ⟨⟨T, hT⟩, hF⟩ := h
  exact ⟨⟨T, hT.keep (fun k hk => hk) f.next fun k hk hl => f.get k hl⟩, fun k hk => Nat.lt_of_lt_of_le (hF k hk) f.next⟩
theorem SP.turned {T lo : Nat} {H H1 : AHeap} {n m e : Nat} {s : Sc} {F : Nat → Prop} (h : SP T lo H n m e s) (f : Turn F H H1) (hn : ¬ F n) (hm : ¬ F m) : SP T lo H1 n m e s :=
  ⟨h.nl, h.ml, Nat.lt_of_lt_of_le h.nn f.next, Nat.lt_of_lt_of_le h.mn f.next, h.ne, by rw [f.keep n h.nn hn]; exact h.blk, by rw [f.keep m h.mn hm]; exact h.rows⟩
theorem PQ.new (H : AHeap) : PQ (H.push (rBlk 0 (.v (.slice none 0 0)))) H.next 0 [] (fun k => k = H.next) :=
  ⟨⟨.v (.slice none 0 0), rfl, by rw [next_push]; omega, by rw [get_push, if_pos rfl], rfl, .inl rfl, fun h => by omega⟩, fun k hk => by rw [next_push]; omega⟩
theorem ev_out2 (s : Sc) (k r : Int) (a : List Int) : (s.ev k r a).2.length ≤ 1 := by
  have hd : ∀ t : Sc, t.dn.2.length ≤ 1 := fun t => by unfold Sc.dn; split <;> simp
  unfold Sc.ev Sc.pr Sc.ctl Sc.wrapped
  (repeat' split) <;> first | (simp; done) | exact hd _
theorem put_ok (w : Int) (t : List Int) (r : Int) (hr : -2147483648 ≤ r ∧ r ≤ 2147483647) (ev : Ev) (h : (put w t r).2.2 = some ev) : (∀ x ∈ ev.args, 0 ≤ x ∧ x ≤ 9999) ∧ ev.args.length < 2 ^ 40 ∧ (-2147483648 ≤ ev.r ∧ ev.r ≤ 2147483647) := by
  have key : ∀ e : Option Ev, e = some ev → (e = oscEv t ∨ e = csiEv t r ∨ e = none ∨ ∃ k, e = some ⟨k, r, [], emptyB⟩) → (∀ x ∈ ev.args, 0 ≤ x ∧ x ≤ 9999) ∧ ev.args.length < 2 ^ 40 ∧ (-2147483648 ≤ ev.r ∧ ev.r ≤ 2147483647) := by
    intro e he hc
    rcases hc with h | h | h | ⟨k, h⟩
    · rw [h] at he; unfold oscEv at he; split at he
      · cases he; simp
      · cases he
    · rw [h] at he; unfold csiEv at he; split at he
      · cases he
        dsimp only
        split
        · simp [hr]
        · exact ⟨fun x hx => csiArgs_bd t x (List.mem_of_mem_take hx), by rw [List.length_take]; omega, hr⟩
      · cases he
    · rw [h] at he; cases he
    · rw [h] at he; cases he; simp [hr]
  refine key _ h ?_
  unfold put
  (repeat' split) <;> first | exact .inl rfl | exact .inr (.inl rfl) | exact .inr (.inr (.inl rfl)) | exact .inr (.inr (.inr ⟨_, rfl⟩))
section
variable {ys : List (Nat × LRec)} {H : AHeap} {F : Nat → Prop} {n m e p : Nat} {s : Sc} {w : Int} {t : List Int}
theorem rPut_E (hP : PQ H p w t F) (r : Int) (hr : -2147483648 ≤ r ∧ r ≤ 2147483647) (ht : t.length < 2 ^ 20) (hc : ∀ c ∈ t, -2147483648 ≤ c ∧ c ≤ 2147483647) : CallE EZ ys 0 16 [.op p 0 0 0, .v (.int .i32 r)] H fun x H' => ∃ k r' A tx, x = .tup [.agg [.v (.int .i64 k), .v (.int .i32 r'), A, .v (.string tx)], .v (.bool (put w t r).2.2.isSome)] ∧ (∀ ev, (put w t r).2.2 = some ev → k = ev.kind ∧ r' = ev.r ∧ tx = ev.text ∧ Sl 1 A (ints ev.args)) ∧ Turn F H H' ∧ PQ H' p (put w t r).1 (put w t r).2.1 (grow F H H') := by
  obtain ⟨⟨T, hT⟩, hF⟩ := hP
  obtain ⟨N, x, H', h0, h1, h2, k, r', A, tx, rfl, h3⟩ := refPutP_wc (ys := ys) (lo := 0) (fun _ _ => Nat.zero_le _) hF hT r hr ht hc
  refine WC.effE rfl ⟨N, _, H', h0, k, r', A, tx, rfl, h3, h1, h2, ?_⟩
  rintro k (hk | ⟨_, hk⟩)
  · exact Nat.lt_of_lt_of_le (hF k hk) h1.next
  · exact hk
/-- Signs, fed. -/
def stT : Int × List Int × Sc → Int → Int × List Int × Sc
  | (w, t, s), c => ((put w t c).1, (put w t c).2.1, match (put w t c).2.2 with | some ev => (s.ev ev.kind ev.r ev.args).1 | none => s)
def fedTo (s : Sc) (l : List Int) : Int × List Int × Sc := l.foldl stT (0, [], s)
theorem fedTo_snoc (s : Sc) (l : List Int) (c : Int) : fedTo s (l ++ [c]) = stT (fedTo s l) c := by simp [fedTo]
theorem fed_len (s : Sc) (l : List Int) : (fedTo s l).2.1.length ≤ l.length := by
  have : ∀ (l : List Int) (x : Int × List Int × Sc), (l.foldl stT x).2.1.length ≤ x.2.1.length + l.length := by
    intro l
    induction l with
    | nil => intro x; simp
    | cons c l ih =>
      intro x
      have h1 := ih (stT x c)
      have h2 : (stT x c).2.1.length ≤ x.2.1.length + 1 := put_len x.1 x.2.1 c
      simp only [List.foldl_cons, List.length_cons]; omega
  have h := this l (0, [], s)
  simpa [fedTo] using h
theorem fed_mem (s : Sc) (l : List Int) (hl : ∀ c ∈ l, -2147483648 ≤ c ∧ c ≤ 2147483647) : ∀ c ∈ (fedTo s l).2.1, -2147483648 ≤ c ∧ c ≤ 2147483647 := by
  have : ∀ (l : List Int) (x : Int × List Int × Sc), (∀ c ∈ l, -2147483648 ≤ c ∧ c ≤ 2147483647) → (∀ c ∈ x.2.1, -2147483648 ≤ c ∧ c ≤ 2147483647) → ∀ c ∈ (l.foldl stT x).2.1, -2147483648 ≤ c ∧ c ≤ 2147483647 := by
    intro l
    induction l with
    | nil => intro x _ h; exact h
    | cons c l ih =>
      intro x hl hx
      refine ih (stT x c) (fun d hd => hl d (List.mem_cons_of_mem _ hd)) fun d hd => ?_
      rcases put_mem x.1 x.2.1 c d hd with h | h
      · exact hx d h
      · subst h; exact hl d List.mem_cons_self
  exact this l (0, [], s) hl (by simp)
theorem fed_G {s : Sc} (hg : ScG s) (l : List Int) (hl : ∀ c ∈ l, -2147483648 ≤ c ∧ c ≤ 2147483647) : ScG (fedTo s l).2.2 ∧ (fedTo s l).2.2.w = s.w ∧ (fedTo s l).2.2.h = s.h := by
  have : ∀ (l : List Int) (x : Int × List Int × Sc), (∀ c ∈ l, -2147483648 ≤ c ∧ c ≤ 2147483647) → ScG x.2.2 → ScG (l.foldl stT x).2.2 ∧ (l.foldl stT x).2.2.w = x.2.2.w ∧ (l.foldl stT x).2.2.h = x.2.2.h := by
    intro l
    induction l with
    | nil => intro x _ h; exact ⟨h, rfl, rfl⟩
    | cons c l ih =>
      intro x hl hx
      have h1 : ScG (stT x c).2.2 ∧ (stT x c).2.2.w = x.2.2.w ∧ (stT x c).2.2.h = x.2.2.h := by
        obtain ⟨w, t, s⟩ := x
        have e : (stT (w, t, s) c).2.2 = match (put w t c).2.2 with | some ev => (s.ev ev.kind ev.r ev.args).1 | none => s := rfl
        rw [e]
        cases hp : (put w t c).2.2 with
        | none => exact ⟨hx, rfl, rfl⟩
        | some ev =>
          obtain ⟨a1, a2, a3⟩ := put_ok w t c (hl c List.mem_cons_self) ev hp
          obtain ⟨b1, _, b2, b3⟩ := ScG.ev hx ev.kind ev.r a3 (fun y hy => (a1 y hy).1)
          exact ⟨b1, b2, b3⟩
      obtain ⟨c1, c2, c3⟩ := ih (stT x c) (fun d hd => hl d (List.mem_cons_of_mem _ hd)) h1.1
      exact ⟨c1, c2.trans h1.2.1, c3.trans h1.2.2⟩
  exact this l (0, [], s) hl hg
theorem feed_run (hS : SP 108 0 H n m e s) (hg : ScG s) (str : ByteArray) (A : AV) (l : List Int) (z : Int) (hall : ∀ ys lo H, CallR EZ ys lo 20 [.v (.string str)] H (.tup [A, .v (.int .i64 z)]) H ⟨0, 0, 0⟩) (hA : Sl 1 A (runes l)) (hl : ∀ c ∈ l, -2147483648 ≤ c ∧ c ≤ 2147483647) (hlen : l.length < 2 ^ 19) : CallE EZ ys 0 40 [.op n 0 0 0, .v (.string str)] H fun x H' => ∃ (cnt : Int) (m' e' : Nat), x = .v (.int .i64 cnt) ∧ SP 108 0 H' n m' e' (fedTo s l).2.2 ∧ Fr H H' n m m' := by
  refine WC.effE rfl ?_
  have lnA : ∀ G, primL 0 G (builtinA EZ .len #[22] 3 [A]) = some (.v (.int .i64 l.length), G, rdTr A) := fun G => by
    have := len_SlH EZ 0 22 3 (H := G) (.inl hA) (by kernel_rfl)
    rw [runes_len] at this; exact this
  have nn := hS.nn; have mn := hS.mn
  refine zvin Tryz.func40 Tryz.ntmps40 ?_
  repeat' (first
   | refine zka ?_
   | refine zkb ?_
   | (apply RKp.op; ((try simp (disch := (first | omega | exact zX | exact zO | fail)) only [go_sem, Nat.reduceDiv, Nat.reduceMod, Nat.reduceAdd, Nat.reduceSub, Nat.reduceEqDiff, Nat.reduceLeDiff, Nat.reduceLT, Nat.reduceMul, reduceIte, Nat.reducePow, Int.reduceEq]); exact zL); rfl)
   | (apply RKp.call; (apply hall <;> (exact zD)); rfl)
   | (apply RKp.callR; (apply hall <;> (exact zD)); rfl; intro tr htr)
   | (apply RKp.callO; (apply hall <;> (exact zD)); rfl; intro tr)
   | (apply RKp.callRE; (apply hall <;> (exact zD)); (intro x; rfl))
   | (apply RKp.callE; (apply hall <;> (exact zD)); (intro x; rfl))
   | refine zkc ?_
   | apply RKg.tt
   | apply RKg.ff
   | refine zkd ?_
   | refine zke ?_
   | refine zkf ?_
   | (refine RKg.split (fun h => ?_) (fun h => ?_) <;> (try rw [h]) <;> (replace h := zB h) <;> (try (exfalso; first | exact h | omega)))
   | apply RK.nil
   | apply V.sq
   | apply V.bl
   | apply V.sc
   | apply V.skip
   | apply V.label
   | apply V.ret
   | apply V.exit
   | apply SeqQ.normal
   | apply SeqQ.ret
   | apply SeqQ.exit
   | apply BlockQ.normal
   | apply BlockQ.ret
   | apply BlockQ.here
   | refine zbt ?_
   | apply LoopS.ret
   | apply LoopS.exit
   | apply LoopF.ret
   | apply LoopF.exit
   | apply V.regK
   | refine zvd ?_
   | refine zve ?_
   | (refine zvf (fun h => ?_) (fun h => ?_) <;> (replace h := zB h) <;> (try (exfalso; first | exact h | omega)))
    | (refine zfc Tryz.results40 ?_; (try dsimp only)))
  apply V.lpS [9, 8, 10, 11, 19, 20, 21, 22, 23, 24, 25, 26, 27, 28, 29, 30, 31, 32, 33, 34, 35, 36, 37, 38, 39, 40] (fun k xs H2 => ∃ (i : Nat) (cnt : Int) (g : _) (m' e' : Nat) (F : Nat → Prop), xs = .v (.int .i64 i) :: .v (.int .i64 cnt) :: g ∧ k = l.length - i ∧ i ≤ l.length ∧ 0 ≤ cnt ∧ cnt ≤ i ∧ SP 108 0 H2 n m' e' (fedTo s (l.take i)).2.2 ∧ PQ H2 H.next (fedTo s (l.take i)).1 (fedTo s (l.take i)).2.1 F ∧ ¬ F n ∧ ¬ F m' ∧ (∀ k, F k → H.next ≤ k) ∧ Fr H H2 n m m') l.length
  focus (intro xs; simp only [putMany, set2, Nat.reduceAdd, Nat.reduceDiv, Nat.reduceMod, nth_zero, nth_succ, List.set_cons_zero, List.set_cons_succ]; rfl)
  focus (first | rfl | simp only [readMany, nth_zero, nth_succ, Nat.reduceDiv, Nat.reduceMod])
  · exact ⟨0, 0, _, m, e, _, rfl, rfl, Nat.zero_le _, Int.le_refl _, Int.le_refl _, hS.ext ((Ext.refl _).push _), PQ.new H, by omega, by omega, fun k hk => by omega, (Fr.refl H n m).push _⟩
  · rintro k xs H2 ⟨i, cnt, g, m', e', F, rfl, rfl, hi, hc0, hc1, hS2, hP, hFn, hFm, hFl, hF2⟩
    by_cases hlt : i < l.length
    · have hlr : ∀ c ∈ l.take i, -2147483648 ≤ c ∧ c ≤ 2147483647 := fun c hc => hl c (List.mem_of_mem_take hc)
      obtain ⟨hg2, gw, gh⟩ := fed_G hg (l.take i) hlr
      have htl := fed_len s (l.take i)
      have htm := fed_mem s (l.take i) hlr
      have hsn : l.take (i + 1) = l.take i ++ [l.getD i 0] := by
        rw [List.take_succ_eq_append_getElem hlt, List.getD_eq_getElem?_getD, List.getElem?_eq_getElem hlt]; rfl
      have hfs := fedTo_snoc s (l.take i) (l.getD i 0)
      rw [← hsn] at hfs
      have hlg := hl _ (getMem 0 hlt)
      have ixE : ∀ G, primL 0 G (indexAddrA EZ 22 A (.v (.int .i64 (i : Int)))) = some (ixA A (runes l) i, G, rdTr A) := fun G => ix_SlH EZ 0 22 .i64 (i : Int) (.inl hA) (by kernel_rfl) (by omega) (by rw [runes_len]; omega)
      have ldE : ∀ G, primL 0 G (loadA EZ 21 (ixA A (runes l) i)) = some (.v (.int .i32 (l.getD i 0)), G, rdTr A) := fun G => by
        rw [load_SlH EZ 0 21 i (.inl hA) (by rw [runes_len]; exact hlt), nth_runes l i hlt]; rfl
      have hput := fun ys => rPut_E (ys := ys) hP (l.getD i 0) hlg (by rw [List.length_take] at htl; omega) htm
      generalize hst : fedTo s (l.take i) = st at *
      obtain ⟨w, t, s2⟩ := st
      dsimp only at *
      unfold stT at hfs
      repeat' (first
       | refine zka ?_
       | refine zkb ?_
       | (apply RKp.op; ((try simp (disch := (first | omega | exact zX | exact zO | fail)) only [lnA, ixE, ldE, go_sem, Nat.reduceDiv, Nat.reduceMod, Nat.reduceAdd, Nat.reduceSub, Nat.reduceEqDiff, Nat.reduceLeDiff, Nat.reduceLT, Nat.reduceMul, reduceIte, Nat.reducePow, Int.reduceEq]); exact zL); rfl)
       | (apply RKp.callE; (apply hput <;> (exact zD)); (intro x; rfl))
       | refine zkc ?_
       | apply RKg.tt
       | apply RKg.ff
       | refine zkd ?_
       | refine zke ?_
       | refine zkf ?_
       | (refine RKg.split (fun h => ?_) (fun h => ?_) <;> (try rw [h]) <;> (replace h := zB h) <;> (try (exfalso; first | exact h | omega)))
       | apply RK.nil
       | apply V.sq
       | apply V.bl
       | apply V.sc
       | apply V.skip
       | apply V.label
       | apply V.ret
       | apply V.exit
       | apply SeqQ.normal
       | apply SeqQ.ret
       | apply SeqQ.exit
       | apply BlockQ.normal
       | apply BlockQ.ret
       | apply BlockQ.here
       | refine zbt ?_
       | apply LoopS.ret
       | apply LoopS.exit
       | apply LoopF.ret
       | apply LoopF.exit
       | apply V.regK
       | refine zvd ?_
       | refine zve ?_
       | (refine zvf (fun h => ?_) (fun h => ?_) <;> (replace h := zB h) <;> (try (exfalso; first | exact h | omega)))
        | (refine zfc Tryz.results40 ?_; (try dsimp only)))
      rintro x H3 tr ⟨k, r', B, tx, rfl, hev, hT, hP3⟩
      have f1 := hT.next
      have b1 := hS2.nn; have b2 := hS2.mn
      have f2 := hF2.next
      have hS3 := hS2.turned hT hFn hFm
      have hF3 : Fr H H3 n m m' := ⟨by omega, hT.js.trans hF2.js, fun k hk h1 h2 => by rw [hT.keep k (by omega) (fun h => by have := hFl k h; omega), hF2.keep k hk h1 h2], hF2.nw⟩
      have hFn3 : ¬ grow F H2 H3 n := by rintro (h | ⟨h, _⟩) <;> first | exact hFn h | omega
      have hFm3 : ¬ grow F H2 H3 m' := by rintro (h | ⟨h, _⟩) <;> first | exact hFm h | omega
      have hFl3 : ∀ k, grow F H2 H3 k → H.next ≤ k := by rintro k (h | ⟨h, _⟩) <;> first | exact hFl k h | omega
      cases hp : (put w t (l.getD i 0)).2.2 with
      | none =>
        simp only [hp] at hfs
        rw [show (none : Option Ev).isSome = false from rfl]
        repeat' (first
         | refine zka ?_
         | refine zkb ?_
         | (apply RKp.op; ((try simp (disch := (first | omega | exact zX | exact zO | fail)) only [go_sem, Nat.reduceDiv, Nat.reduceMod, Nat.reduceAdd, Nat.reduceSub, Nat.reduceEqDiff, Nat.reduceLeDiff, Nat.reduceLT, Nat.reduceMul, reduceIte, Nat.reducePow, Int.reduceEq]); exact zL); rfl)
         | refine zkc ?_
         | apply RKg.tt
         | apply RKg.ff
         | refine zkd ?_
         | refine zke ?_
         | refine zkf ?_
         | (refine RKg.split (fun h => ?_) (fun h => ?_) <;> (try rw [h]) <;> (replace h := zB h) <;> (try (exfalso; first | exact h | omega)))
         | apply RK.nil
         | apply V.sq
         | apply V.bl
         | apply V.sc
         | apply V.skip
         | apply V.label
         | apply V.ret
         | apply V.exit
         | apply SeqQ.normal
         | apply SeqQ.ret
         | apply SeqQ.exit
         | apply BlockQ.normal
         | apply BlockQ.ret
         | apply BlockQ.here
         | refine zbt ?_
         | apply LoopS.ret
         | apply LoopS.exit
         | apply LoopF.ret
         | apply LoopF.exit
         | apply V.regK
         | refine zvd ?_
         | refine zve ?_
         | (refine zvf (fun h => ?_) (fun h => ?_) <;> (replace h := zB h) <;> (try (exfalso; first | exact h | omega)))
          | (refine zfc Tryz.results40 ?_; (try dsimp only)))
        refine LoopS.again (l.length - (i + 1)) (by rfl) (by omega) ⟨i + 1, cnt, _, m', e', _, rfl, rfl, by omega, hc0, by omega, ?_, ?_, hFn3, hFm3, hFl3, hF3.push _⟩
        · rw [hfs]; exact hS3.ext ((Ext.refl _).push _)
        · rw [hfs]; exact hP3.ext ((Ext.refl _).push _)
      | some ev =>
        obtain ⟨q1, q2, q3⟩ := put_ok w t (l.getD i 0) hlg ev hp
        obtain ⟨rfl, rfl, rfl, hB⟩ := hev ev hp
        simp only [hp] at hfs
        rw [show (some ev : Option Ev).isSome = true from rfl]
        have hDo := fun ys => Do_run (ys := ys) (hS3.ext ((Ext.refl _).push (evk ev.kind ev.r B ev.text))) hg2 ev.kind ev.r q3 ev.text (.inl hB) (fun k hk => by obtain ⟨_, _, _, rfl⟩ := hk; rcases hB with h | ⟨_, h | h⟩ <;> cases h) q2 q1
        repeat' (first
         | refine zka ?_
         | refine zkb ?_
         | (apply RKp.op; ((try simp (disch := (first | omega | exact zX | exact zO | fail)) only [go_sem, Nat.reduceDiv, Nat.reduceMod, Nat.reduceAdd, Nat.reduceSub, Nat.reduceEqDiff, Nat.reduceLeDiff, Nat.reduceLT, Nat.reduceMul, reduceIte, Nat.reducePow, Int.reduceEq]); exact zL); rfl)
         | (apply RKp.callE; (apply hDo <;> (exact zD)); (intro x; rfl))
         | refine zkc ?_
         | apply RKg.tt
         | apply RKg.ff
         | refine zkd ?_
         | refine zke ?_
         | refine zkf ?_
         | (refine RKg.split (fun h => ?_) (fun h => ?_) <;> (try rw [h]) <;> (replace h := zB h) <;> (try (exfalso; first | exact h | omega)))
         | apply RK.nil
         | apply V.sq
         | apply V.bl
         | apply V.sc
         | apply V.skip
         | apply V.label
         | apply V.ret
         | apply V.exit
         | apply SeqQ.normal
         | apply SeqQ.ret
         | apply SeqQ.exit
         | apply BlockQ.normal
         | apply BlockQ.ret
         | apply BlockQ.here
         | refine zbt ?_
         | apply LoopS.ret
         | apply LoopS.exit
         | apply LoopF.ret
         | apply LoopF.exit
         | apply V.regK
         | refine zvd ?_
         | refine zve ?_
         | (refine zvf (fun h => ?_) (fun h => ?_) <;> (replace h := zB h) <;> (try (exfalso; first | exact h | omega)))
          | (refine zfc Tryz.results40 ?_; (try dsimp only)))
        rintro x H4 tr4 ⟨m4, e4, hS4, hF4, hO4⟩
        have lnO := len_rwX 0 hO4.sl H4 (Ext.refl _)
        have ho1 := ev_out2 s2 ev.kind ev.r ev.args
        have f4 := hF4.nw; have f5 := hF4.next; rw [next_push] at f4 f5
        repeat' (first
         | refine zka ?_
         | refine zkb ?_
         | (apply RKp.op; ((try simp (disch := (first | omega | exact zX | exact zO | fail)) only [lnO, go_sem, Nat.reduceDiv, Nat.reduceMod, Nat.reduceAdd, Nat.reduceSub, Nat.reduceEqDiff, Nat.reduceLeDiff, Nat.reduceLT, Nat.reduceMul, reduceIte, Nat.reducePow, Int.reduceEq]); exact zL); rfl)
         | refine zkc ?_
         | apply RKg.tt
         | apply RKg.ff
         | refine zkd ?_
         | refine zke ?_
         | refine zkf ?_
         | (refine RKg.split (fun h => ?_) (fun h => ?_) <;> (try rw [h]) <;> (replace h := zB h) <;> (try (exfalso; first | exact h | omega)))
         | apply RK.nil
         | apply V.sq
         | apply V.bl
         | apply V.sc
         | apply V.skip
         | apply V.label
         | apply V.ret
         | apply V.exit
         | apply SeqQ.normal
         | apply SeqQ.ret
         | apply SeqQ.exit
         | apply BlockQ.normal
         | apply BlockQ.ret
         | apply BlockQ.here
         | refine zbt ?_
         | apply LoopS.ret
         | apply LoopS.exit
         | apply LoopF.ret
         | apply LoopF.exit
         | apply V.regK
         | refine zvd ?_
         | refine zve ?_
         | (refine zvf (fun h => ?_) (fun h => ?_) <;> (replace h := zB h) <;> (try (exfalso; first | exact h | omega)))
          | (refine zfc Tryz.results40 ?_; (try dsimp only)))
        refine LoopS.again (l.length - (i + 1)) (by rfl) (by omega) ⟨i + 1, _, _, m4, e4, _, rfl, rfl, by omega, by omega, by omega, ?_, ?_, hFn3, ?_, hFl3, ?_⟩
        · rw [hfs]; exact hS4
        · rw [hfs]; exact (hP3.ext ((Ext.refl _).push _)).fr hF4 hFn3 hFm3
        · rcases f4 with f4 | f4
          · rw [f4]; exact hFm3
          · intro h; have := hP3.fl _ h; omega
        · exact (hF3.push _).trans hF4
    · have ei : i = l.length := by omega
      subst ei
      rw [List.take_length] at hS2
      repeat' (first
       | refine zka ?_
       | refine zkb ?_
       | (apply RKp.op; ((try simp (disch := (first | omega | exact zX | exact zO | fail)) only [lnA, go_sem, Nat.reduceDiv, Nat.reduceMod, Nat.reduceAdd, Nat.reduceSub, Nat.reduceEqDiff, Nat.reduceLeDiff, Nat.reduceLT, Nat.reduceMul, reduceIte, Nat.reducePow, Int.reduceEq]); exact zL); rfl)
       | refine zkc ?_
       | apply RKg.tt
       | apply RKg.ff
       | refine zkd ?_
       | refine zke ?_
       | refine zkf ?_
       | (refine RKg.split (fun h => ?_) (fun h => ?_) <;> (try rw [h]) <;> (replace h := zB h) <;> (try (exfalso; first | exact h | omega)))
       | apply RK.nil
       | apply V.sq
       | apply V.bl
       | apply V.sc
       | apply V.skip
       | apply V.label
       | apply V.ret
       | apply V.exit
       | apply SeqQ.normal
       | apply SeqQ.ret
       | apply SeqQ.exit
       | apply BlockQ.normal
       | apply BlockQ.ret
       | apply BlockQ.here
       | refine zbt ?_
       | apply LoopS.ret
       | apply LoopS.exit
       | apply LoopF.ret
       | apply LoopF.exit
       | apply V.regK
       | refine zvd ?_
       | refine zve ?_
       | (refine zvf (fun h => ?_) (fun h => ?_) <;> (replace h := zB h) <;> (try (exfalso; first | exact h | omega)))
        | (refine zfc Tryz.results40 ?_; (try dsimp only)))
      exact ⟨cnt, m', e', rfl, hS2, hF2⟩
end
end Go.Am
