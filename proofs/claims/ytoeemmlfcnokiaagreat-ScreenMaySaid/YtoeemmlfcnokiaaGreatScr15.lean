/- ScreenMay: whatever is done to it, all rows may be, and are as wide as the screen. -/
import Derived.Test.YtoeemmlfcnokiaaGreatScr14
import Derived.Test.YtoeemmlfcnokiaaGreatAmF
set_option linter.all false
set_option linter.deprecated false
namespace Go.Am
open Go.Proofs
set_option maxRecDepth 8000
set_option maxHeartbeats 4000000
section
variable {L : AV} {l : List Int}
theorem mod_10 (a : Int) : (a.tmod 10 + 10).tmod 10 = a % 10 ∧ -10 ≤ a.tmod 10 ∧ a.tmod 10 ≤ 10 := by
  rcases Int.le_total 0 a with h | h
  · rw [Int.tmod_eq_emod_of_nonneg h, Int.tmod_eq_emod_of_nonneg (by omega)]; omega
  · have e : a.tmod 10 = -((-a) % 10) := by rw [← Int.tmod_eq_emod_of_nonneg (by omega), Int.neg_tmod]; omega
    rw [e, Int.tmod_eq_emod_of_nonneg (by omega)]; omega
theorem mod_5 (a : Int) : (a.tmod 5 + 5).tmod 5 = a % 5 ∧ -5 ≤ a.tmod 5 ∧ a.tmod 5 ≤ 5 := by
  rcases Int.le_total 0 a with h | h
  · rw [Int.tmod_eq_emod_of_nonneg h, Int.tmod_eq_emod_of_nonneg (by omega)]; omega
  · have e : a.tmod 5 = -((-a) % 5) := by rw [← Int.tmod_eq_emod_of_nonneg (by omega), Int.neg_tmod]; omega
    rw [e, Int.tmod_eq_emod_of_nonneg (by omega)]; omega
theorem ScreenMay_law (hL : Sl 1 L (runes l)) (hl : ∀ c ∈ l, -2147483648 ≤ c ∧ c ≤ 2147483647) (hlen : l.length < 2 ^ 63) (w ht : Int) (hw : -9223372036854775808 ≤ w ∧ w ≤ 9223372036854775807) (hh : -9223372036854775808 ≤ ht ∧ ht ≤ 9223372036854775807) : WC EZ [] 0 11 [.v (.int .i64 w), .v (.int .i64 ht), L] .empty fun x _ => x = .v (.bool true) := by
  have lnL : ∀ G, primL 0 G (builtinA EZ .len #[22] 3 [L]) = some (.v (.int .i64 l.length), G, rdTr L) := fun G => by
    have := len_SlH EZ 0 22 3 (H := G) (.inl hL) (by kernel_rfl)
    rw [runes_len] at this; exact this
  obtain ⟨w1, w2, w3⟩ := mod_10 w
  obtain ⟨h1, h2, h3⟩ := mod_5 ht
  have hNew := fun ys G w h => New_E (ys := ys) (lo := 0) (H := G) w h
  refine zvin Tryz.func11 Tryz.ntmps11 ?_
  repeat' (first
   | refine zka ?_
   | refine zkb ?_
   | (apply RKp.op; ((try simp (disch := (first | omega | exact zX | exact zO | fail)) only [w1, h1, go_sem, Nat.reduceDiv, Nat.reduceMod, Nat.reduceAdd, Nat.reduceSub, Nat.reduceEqDiff, Nat.reduceLeDiff, Nat.reduceLT, Nat.reduceMul, reduceIte, Nat.reducePow, Int.reduceEq]); exact zL); rfl)
   | (apply RKp.call; (apply begun_R <;> (exact zD)); rfl)
   | (apply RKp.callE; (apply hNew <;> (exact zD)); (intro x; rfl))
   | refine zkc ?_
   | apply RKg.tt
   | apply RKg.ff
   | refine zkd ?_
   | refine zke ?_
   | refine zkf ?_
   | (refine RKg.split (fun h => ?_) (fun h => ?_) <;> (try rw [h]) <;> (replace h := zB h) <;> (try (exfalso; first | exact h | omega)))
   | apply RK.nil
   | apply V.sq
   | apply V.bl
   | apply V.sc
   | apply V.skip
   | apply V.label
   | apply V.ret
   | apply V.exit
   | apply SeqQ.normal
   | apply SeqQ.ret
   | apply SeqQ.exit
   | apply BlockQ.normal
   | apply BlockQ.ret
   | apply BlockQ.here
   | refine zbt ?_
   | apply LoopS.ret
   | apply LoopS.exit
   | apply LoopF.ret
   | apply LoopF.exit
   | apply V.regK
   | refine zvd ?_
   | refine zve ?_
   | (refine zvf (fun h => ?_) (fun h => ?_) <;> (replace h := zB h) <;> (try (exfalso; first | exact h | omega)))
    | (refine zfc Tryz.results11 ?_; (try dsimp only)))
  rintro x H1 tr ⟨n, m0, rfl, hS0, b1, b2, hx1⟩
  have hg0 := ScG.new2 (2 + w % 10) (1 + ht % 5)
  generalize Sc.new _ _ = s0 at *
  have hsz := fun ys => Size_run (ys := ys) (lo := 0) (hS0.ext ((Ext.refl _).push (rBlk 0 (.v (.slice none 0 0)))))
  repeat' (first
   | refine zka ?_
   | refine zkb ?_
   | (apply RKp.op; ((try simp (disch := (first | omega | exact zX | exact zO | fail)) only [go_sem, Nat.reduceDiv, Nat.reduceMod, Nat.reduceAdd, Nat.reduceSub, Nat.reduceEqDiff, Nat.reduceLeDiff, Nat.reduceLT, Nat.reduceMul, reduceIte, Nat.reducePow, Int.reduceEq]); exact zL); rfl)
   | (apply RKp.callR; (apply hsz <;> (exact zD)); rfl; intro tr htr)
   | refine zkc ?_
   | apply RKg.tt
   | apply RKg.ff
   | refine zkd ?_
   | refine zke ?_
   | refine zkf ?_
   | (refine RKg.split (fun h => ?_) (fun h => ?_) <;> (try rw [h]) <;> (replace h := zB h) <;> (try (exfalso; first | exact h | omega)))
   | apply RK.nil
   | apply V.sq
   | apply V.bl
   | apply V.sc
   | apply V.skip
   | apply V.label
   | apply V.ret
   | apply V.exit
   | apply SeqQ.normal
   | apply SeqQ.ret
   | apply SeqQ.exit
   | apply BlockQ.normal
   | apply BlockQ.ret
   | apply BlockQ.here
   | refine zbt ?_
   | apply LoopS.ret
   | apply LoopS.exit
   | apply LoopF.ret
   | apply LoopF.exit
   | apply V.regK
   | refine zvd ?_
   | refine zve ?_
   | (refine zvf (fun h => ?_) (fun h => ?_) <;> (replace h := zB h) <;> (try (exfalso; first | exact h | omega)))
    | (refine zfc Tryz.results11 ?_; (try dsimp only)))
  have nn := hS0.nn; have mn := hS0.mn
  apply V.lpS [12, 6, 13, 14, 16, 17, 19, 41, 42, 43, 44, 45, 46, 47, 48, 49, 50, 51, 52, 53, 54, 55, 56, 57, 58, 59, 60, 61, 62, 63, 64, 65, 66, 67, 68, 69, 70, 71, 72, 73, 74, 75, 76, 77, 78, 79, 80, 81, 82, 83, 84, 85, 86, 87, 88, 89, 90, 91, 92, 93, 94, 95, 96, 97, 98, 99, 100, 101, 102, 103, 104, 105, 106, 107, 108, 109, 110, 111, 112, 113, 114, 115, 116, 117, 118, 119, 120, 121, 122, 123, 124, 125, 126, 127] (fun k xs H2 => ∃ (i : Nat) (g : _) (m' e' : Nat) (F : Nat → Prop), xs = .v (.int .i64 i) :: g ∧ k = l.length - i ∧ i ≤ l.length ∧ i ≤ 150 ∧ SP 108 0 H2 n m' e' (fedTo s0 (l.take i)).2.2 ∧ PQ H2 H1.next (fedTo s0 (l.take i)).1 (fedTo s0 (l.take i)).2.1 F ∧ ¬ F n ∧ ¬ F m' ∧ (∀ k, F k → H1.next ≤ k) ∧ n < H1.next ∧ H1.next ≤ H2.next) l.length
  focus (intro xs; simp only [putMany, set2, Nat.reduceAdd, Nat.reduceDiv, Nat.reduceMod, nth_zero, nth_succ, List.set_cons_zero, List.set_cons_succ]; rfl)
  focus (first | rfl | simp only [readMany, nth_zero, nth_succ, Nat.reduceDiv, Nat.reduceMod])
  · exact ⟨0, _, m0, 0, _, rfl, rfl, Nat.zero_le _, by omega, hS0.ext ((Ext.refl _).push _), PQ.new H1, by omega, by omega, fun k hk => by omega, nn, by (first | omega | (simp only [next_push, next_set, next_empty]; done) | (simp only [next_push, next_set, next_empty]; omega))⟩
  · rintro k xs H2 ⟨i, g, m', e', F, rfl, rfl, hi, hi2, hS2, hP, hFn, hFm, hFl, hnn, hn2⟩
    by_cases hlt : i < l.length ∧ i < 150
    · obtain ⟨hlt, hlt2⟩ := hlt
      have hlr : ∀ c ∈ l.take i, -2147483648 ≤ c ∧ c ≤ 2147483647 := fun c hc => hl c (List.mem_of_mem_take hc)
      obtain ⟨hg2, gw, gh⟩ := fed_G hg0 (l.take i) hlr
      have htl := fed_len s0 (l.take i)
      have htm := fed_mem s0 (l.take i) hlr
      have hsn : l.take (i + 1) = l.take i ++ [l.getD i 0] := by
        rw [List.take_succ_eq_append_getElem hlt, List.getD_eq_getElem?_getD, List.getElem?_eq_getElem hlt]; rfl
      have hfs := fedTo_snoc s0 (l.take i) (l.getD i 0)
      rw [← hsn] at hfs
      have hlg := hl _ (getMem 0 hlt)
      have ixE : ∀ G, primL 0 G (indexAddrA EZ 22 L (.v (.int .i64 (i : Int)))) = some (ixA L (runes l) i, G, rdTr L) := fun G => ix_SlH EZ 0 22 .i64 (i : Int) (.inl hL) (by kernel_rfl) (by omega) (by rw [runes_len]; omega)
      have ldE : ∀ G, primL 0 G (loadA EZ 21 (ixA L (runes l) i)) = some (.v (.int .i32 (l.getD i 0)), G, rdTr L) := fun G => by
        rw [load_SlH EZ 0 21 i (.inl hL) (by rw [runes_len]; exact hlt), nth_runes l i hlt]; rfl
      have hput := fun ys => rPut_E (ys := ys) hP (l.getD i 0) hlg (by rw [List.length_take] at htl; omega) htm
      generalize hst : fedTo s0 (l.take i) = st at *
      obtain ⟨w, t, s2⟩ := st
      dsimp only at *
      unfold stT at hfs
      repeat' (first
       | refine zka ?_
       | refine zkb ?_
       | (apply RKp.op; ((try simp (disch := (first | omega | exact zX | exact zO | fail)) only [lnL, ixE, ldE, go_sem, Nat.reduceDiv, Nat.reduceMod, Nat.reduceAdd, Nat.reduceSub, Nat.reduceEqDiff, Nat.reduceLeDiff, Nat.reduceLT, Nat.reduceMul, reduceIte, Nat.reducePow, Int.reduceEq]); exact zL); rfl)
       | (apply RKp.callE; (apply hput <;> (exact zD)); (intro x; rfl))
       | refine zkc ?_
       | apply RKg.tt
       | apply RKg.ff
       | refine zkd ?_
       | refine zke ?_
       | refine zkf ?_
       | (refine RKg.split (fun h => ?_) (fun h => ?_) <;> (try rw [h]) <;> (replace h := zB h) <;> (try (exfalso; first | exact h | omega)))
       | apply RK.nil
       | apply V.sq
       | apply V.bl
       | apply V.sc
       | apply V.skip
       | apply V.label
       | apply V.ret
       | apply V.exit
       | apply SeqQ.normal
       | apply SeqQ.ret
       | apply SeqQ.exit
       | apply BlockQ.normal
       | apply BlockQ.ret
       | apply BlockQ.here
       | refine zbt ?_
       | apply LoopS.ret
       | apply LoopS.exit
       | apply LoopF.ret
       | apply LoopF.exit
       | apply V.regK
       | refine zvd ?_
       | refine zve ?_
       | (refine zvf (fun h => ?_) (fun h => ?_) <;> (replace h := zB h) <;> (try (exfalso; first | exact h | omega)))
        | (refine zfc Tryz.results11 ?_; (try dsimp only)))
      rintro x H3 tr ⟨k, r', B, tx, rfl, hev, hT, hP3⟩
      have f1 := hT.next
      have b1 := hS2.nn; have b2 := hS2.mn
      have hS3 := hS2.turned hT hFn hFm
      have hFn3 : ¬ grow F H2 H3 n := by rintro (h | ⟨h, _⟩) <;> first | exact hFn h | omega
      have hFm3 : ¬ grow F H2 H3 m' := by rintro (h | ⟨h, _⟩) <;> first | exact hFm h | omega
      have hFl3 : ∀ k, grow F H2 H3 k → H1.next ≤ k := by rintro k (h | ⟨h, _⟩) <;> first | exact hFl k h | omega
      cases hp : (put w t (l.getD i 0)).2.2 with
      | none =>
        simp only [hp] at hfs
        rw [show (none : Option Ev).isSome = false from rfl]
        repeat' (first
         | refine zka ?_
         | refine zkb ?_
         | (apply RKp.op; ((try simp (disch := (first | omega | exact zX | exact zO | fail)) only [go_sem, Nat.reduceDiv, Nat.reduceMod, Nat.reduceAdd, Nat.reduceSub, Nat.reduceEqDiff, Nat.reduceLeDiff, Nat.reduceLT, Nat.reduceMul, reduceIte, Nat.reducePow, Int.reduceEq]); exact zL); rfl)
         | refine zkc ?_
         | apply RKg.tt
         | apply RKg.ff
         | refine zkd ?_
         | refine zke ?_
         | refine zkf ?_
         | (refine RKg.split (fun h => ?_) (fun h => ?_) <;> (try rw [h]) <;> (replace h := zB h) <;> (try (exfalso; first | exact h | omega)))
         | apply RK.nil
         | apply V.sq
         | apply V.bl
         | apply V.sc
         | apply V.skip
         | apply V.label
         | apply V.ret
         | apply V.exit
         | apply SeqQ.normal
         | apply SeqQ.ret
         | apply SeqQ.exit
         | apply BlockQ.normal
         | apply BlockQ.ret
         | apply BlockQ.here
         | refine zbt ?_
         | apply LoopS.ret
         | apply LoopS.exit
         | apply LoopF.ret
         | apply LoopF.exit
         | apply V.regK
         | refine zvd ?_
         | refine zve ?_
         | (refine zvf (fun h => ?_) (fun h => ?_) <;> (replace h := zB h) <;> (try (exfalso; first | exact h | omega)))
          | (refine zfc Tryz.results11 ?_; (try dsimp only)))
        refine LoopS.again (l.length - (i + 1)) (by rfl) (by omega) ⟨i + 1, _, m', e', _, rfl, rfl, by omega, by omega, ?_, ?_, hFn3, hFm3, hFl3, hnn, by (first | omega | (simp only [next_push, next_set, next_empty]; done) | (simp only [next_push, next_set, next_empty]; omega))⟩
        · rw [hfs]; exact hS3.ext ((Ext.refl _).push _)
        · rw [hfs]; exact hP3.ext ((Ext.refl _).push _)
      | some ev =>
        obtain ⟨q1, q2, q3⟩ := put_ok w t (l.getD i 0) hlg ev hp
        obtain ⟨rfl, rfl, rfl, hB⟩ := hev ev hp
        simp only [hp] at hfs
        rw [show (some ev : Option Ev).isSome = true from rfl]
        have hDo := fun ys => Do_run (ys := ys) (hS3.ext ((Ext.refl _).push (evk ev.kind ev.r B ev.text))) hg2 ev.kind ev.r q3 ev.text (.inl hB) (fun k hk => by obtain ⟨_, _, _, rfl⟩ := hk; rcases hB with h | ⟨_, h | h⟩ <;> cases h) q2 q1
        repeat' (first
         | refine zka ?_
         | refine zkb ?_
         | (apply RKp.op; ((try simp (disch := (first | omega | exact zX | exact zO | fail)) only [go_sem, Nat.reduceDiv, Nat.reduceMod, Nat.reduceAdd, Nat.reduceSub, Nat.reduceEqDiff, Nat.reduceLeDiff, Nat.reduceLT, Nat.reduceMul, reduceIte, Nat.reducePow, Int.reduceEq]); exact zL); rfl)
         | (apply RKp.callE; (apply hDo <;> (exact zD)); (intro x; rfl))
         | refine zkc ?_
         | apply RKg.tt
         | apply RKg.ff
         | refine zkd ?_
         | refine zke ?_
         | refine zkf ?_
         | (refine RKg.split (fun h => ?_) (fun h => ?_) <;> (try rw [h]) <;> (replace h := zB h) <;> (try (exfalso; first | exact h | omega)))
         | apply RK.nil
         | apply V.sq
         | apply V.bl
         | apply V.sc
         | apply V.skip
         | apply V.label
         | apply V.ret
         | apply V.exit
         | apply SeqQ.normal
         | apply SeqQ.ret
         | apply SeqQ.exit
         | apply BlockQ.normal
         | apply BlockQ.ret
         | apply BlockQ.here
         | refine zbt ?_
         | apply LoopS.ret
         | apply LoopS.exit
         | apply LoopF.ret
         | apply LoopF.exit
         | apply V.regK
         | refine zvd ?_
         | refine zve ?_
         | (refine zvf (fun h => ?_) (fun h => ?_) <;> (replace h := zB h) <;> (try (exfalso; first | exact h | omega)))
          | (refine zfc Tryz.results11 ?_; (try dsimp only)))
        rintro x H4 tr4 ⟨m4, e4, hS4, hF4, hO4⟩
        have ho1 := ev_out2 s2 ev.kind ev.r ev.args
        obtain ⟨hg4, hw4, gw4, gh4⟩ := hg2.ev ev.kind ev.r q3 (fun y hy => (q1 y hy).1)
        have f4 := hF4.nw; have f5 := hF4.next; rw [next_push] at f4 f5
        generalize hse : s2.ev ev.kind ev.r ev.args = se at *
        obtain ⟨s4, out⟩ := se
        dsimp only at *
        have lnO := fun G (hx : Ext H4 G) => len_rwX 0 hO4.sl G hx
        repeat' (first
         | refine zka ?_
         | refine zkb ?_
         | (apply RKp.op; ((try simp (disch := (first | omega | exact zX | exact zO | fail)) only [lnO, go_sem, Nat.reduceDiv, Nat.reduceMod, Nat.reduceAdd, Nat.reduceSub, Nat.reduceEqDiff, Nat.reduceLeDiff, Nat.reduceLT, Nat.reduceMul, reduceIte, Nat.reducePow, Int.reduceEq]); exact zL); rfl)
         | refine zkc ?_
         | apply RKg.tt
         | apply RKg.ff
         | refine zkd ?_
         | refine zke ?_
         | refine zkf ?_
         | (refine RKg.split (fun h => ?_) (fun h => ?_) <;> (try rw [h]) <;> (replace h := zB h) <;> (try (exfalso; first | exact h | omega)))
         | apply RK.nil
         | apply V.sq
         | apply V.bl
         | apply V.sc
         | apply V.skip
         | apply V.label
         | apply V.ret
         | apply V.exit
         | apply SeqQ.normal
         | apply SeqQ.ret
         | apply SeqQ.exit
         | apply BlockQ.normal
         | apply BlockQ.ret
         | apply BlockQ.here
         | refine zbt ?_
         | apply LoopS.ret
         | apply LoopS.exit
         | apply LoopF.ret
         | apply LoopF.exit
         | apply V.regK
         | refine zvd ?_
         | refine zve ?_
         | (refine zvf (fun h => ?_) (fun h => ?_) <;> (replace h := zB h) <;> (try (exfalso; first | exact h | omega)))
          | (refine zfc Tryz.results11 ?_; (try dsimp only)))
        apply V.lpS [66, 6, 16, 67, 68, 69, 70, 71, 72, 73, 74, 75, 76, 77, 78, 79, 80] (fun k xs H5 => ∃ (j : Nat) (g : _), xs = .v (.int .i64 j) :: g ∧ k = out.length - j ∧ j ≤ out.length ∧ Ext H4 H5) out.length
        focus (intro xs; simp only [putMany, set2, Nat.reduceAdd, Nat.reduceDiv, Nat.reduceMod, nth_zero, nth_succ, List.set_cons_zero, List.set_cons_succ]; rfl)
        focus (first | rfl | simp only [readMany, nth_zero, nth_succ, Nat.reduceDiv, Nat.reduceMod])
        · exact ⟨0, _, rfl, rfl, Nat.zero_le _, Ext.refl _⟩
        · rintro k xs H5 ⟨j, g5, rfl, rfl, hj, hx5⟩
          by_cases hjl : j < out.length
          · obtain ⟨r1, r2, r3⟩ := hw4 _ (getMem noRw hjl)
            have w300 := hg2.w3
            have hlw : ((out.getD j noRw).1.length : Int) = s0.w := by omega
            have hRow : ∀ ys G, CallRo EZ ys 0 30 [.agg [.sl 3 (cesA (out.getD j noRw).1), .v (.bool (out.getD j noRw).2)]] G (.v (.bool true)) := fun ys G => by
              have := Row_R (ys := ys) (lo := 0) (H := G) (wr := (out.getD j noRw).2) (.inl (.inl rfl)) (by omega) r2
              rwa [decide_eq_true r1] at this
            have ixO := fun G (hx : Ext H4 G) => ix_rwX 0 hO4.sl G hx .i64 (j : Int) (by omega) (by omega)
            have ldO := fun G (hx : Ext H4 G) => ld_rwX 0 hO4.sl G hx j hjl
            repeat' (first
             | refine zka ?_
             | refine zkb ?_
             | (apply RKp.op; ((try simp (disch := (first | omega | exact zX | exact zO | fail)) only [ixO, ldO, Int.toNat_natCast, ces_len, hlw, go_sem, Nat.reduceDiv, Nat.reduceMod, Nat.reduceAdd, Nat.reduceSub, Nat.reduceEqDiff, Nat.reduceLeDiff, Nat.reduceLT, Nat.reduceMul, reduceIte, Nat.reducePow, Int.reduceEq]); exact zL); rfl)
             | (apply RKp.callR; (apply hRow <;> (exact zD)); rfl; intro tr htr)
             | refine zkc ?_
             | apply RKg.tt
             | apply RKg.ff
             | refine zkd ?_
             | refine zke ?_
             | refine zkf ?_
             | (refine RKg.split (fun h => ?_) (fun h => ?_) <;> (try rw [h]) <;> (replace h := zB h) <;> (try (exfalso; first | exact h | omega)))
             | apply RK.nil
             | apply V.sq
             | apply V.bl
             | apply V.sc
             | apply V.skip
             | apply V.label
             | apply V.ret
             | apply V.exit
             | apply SeqQ.normal
             | apply SeqQ.ret
             | apply SeqQ.exit
             | apply BlockQ.normal
             | apply BlockQ.ret
             | apply BlockQ.here
             | refine zbt ?_
             | apply LoopS.ret
             | apply LoopS.exit
             | apply LoopF.ret
             | apply LoopF.exit
             | apply V.regK
             | refine zvd ?_
             | refine zve ?_
             | (refine zvf (fun h => ?_) (fun h => ?_) <;> (replace h := zB h) <;> (try (exfalso; first | exact h | omega)))
              | (refine zfc Tryz.results11 ?_; (try dsimp only)))
            exact LoopS.again (out.length - (j + 1)) (by rfl) (by omega) ⟨j + 1, _, rfl, rfl, by omega, hx5.push _⟩
          · have hS5 := hS4.ext hx5
            have hcur := fun ys G (hx : Ext H4 G) => Cursor_run (ys := ys) (lo := 0) (hS4.ext hx)
            have hrows := fun ys G (hx : Ext H4 G) => Rows_run (ys := ys) (lo := 0) (hS4.ext hx) hg4
            have q4 := hg4.r0; have q5 := hg4.rh; have q6 := hg4.c0; have q7 := hg4.cw; have q8 := hg4.len
            have hlr4 : (s4.rows.length : Int) = s0.h := by omega
            repeat' (first
             | refine zka ?_
             | refine zkb ?_
             | (apply RKp.op; ((try simp (disch := (first | omega | exact zX | exact zO | fail)) only [rowsA_len, hlr4, go_sem, Nat.reduceDiv, Nat.reduceMod, Nat.reduceAdd, Nat.reduceSub, Nat.reduceEqDiff, Nat.reduceLeDiff, Nat.reduceLT, Nat.reduceMul, reduceIte, Nat.reducePow, Int.reduceEq]); exact zL); rfl)
             | (apply RKp.callR; ((first | apply hcur | apply hrows) <;> (exact zD)); rfl; intro tr htr)
             | refine zkc ?_
             | apply RKg.tt
             | apply RKg.ff
             | refine zkd ?_
             | refine zke ?_
             | refine zkf ?_
             | (refine RKg.split (fun h => ?_) (fun h => ?_) <;> (try rw [h]) <;> (replace h := zB h) <;> (try (exfalso; first | exact h | omega)))
             | apply RK.nil
             | apply V.sq
             | apply V.bl
             | apply V.sc
             | apply V.skip
             | apply V.label
             | apply V.ret
             | apply V.exit
             | apply SeqQ.normal
             | apply SeqQ.ret
             | apply SeqQ.exit
             | apply BlockQ.normal
             | apply BlockQ.ret
             | apply BlockQ.here
             | refine zbt ?_
             | apply LoopS.ret
             | apply LoopS.exit
             | apply LoopF.ret
             | apply LoopF.exit
             | apply V.regK
             | refine zvd ?_
             | refine zve ?_
             | (refine zvf (fun h => ?_) (fun h => ?_) <;> (replace h := zB h) <;> (try (exfalso; first | exact h | omega)))
              | (refine zfc Tryz.results11 ?_; (try dsimp only)))
            apply V.lpS [113, 6, 19, 114, 115, 116, 117, 118, 119, 120, 121, 122, 123, 124, 125, 126, 127] (fun k xs H6 => ∃ (j : Nat) (g : _), xs = .v (.int .i64 j) :: g ∧ k = s4.rows.length - j ∧ j ≤ s4.rows.length ∧ Ext H4 H6) s4.rows.length
            focus (intro xs; simp only [putMany, set2, Nat.reduceAdd, Nat.reduceDiv, Nat.reduceMod, nth_zero, nth_succ, List.set_cons_zero, List.set_cons_succ]; rfl)
            focus (first | rfl | simp only [readMany, nth_zero, nth_succ, Nat.reduceDiv, Nat.reduceMod])
            · exact ⟨0, _, rfl, rfl, Nat.zero_le _, hx5.push _⟩
            · rintro k xs H6 ⟨j2, g6, rfl, rfl, hj2, hx6⟩
              by_cases hjl2 : j2 < s4.rows.length
              · obtain ⟨r1, r2, r3⟩ := hg4.rw _ (getMem noRw hjl2)
                have w300 := hg4.w3; have h100 := hg4.h2
                have hlw : ((s4.rows.getD j2 noRw).1.length : Int) = s0.w := by omega
                have hRow : ∀ ys G, CallRo EZ ys 0 30 [.agg [.sl 3 (cesA (s4.rows.getD j2 noRw).1), .v (.bool (s4.rows.getD j2 noRw).2)]] G (.v (.bool true)) := fun ys G => by
                  have := Row_R (ys := ys) (lo := 0) (H := G) (wr := (s4.rows.getD j2 noRw).2) (.inl (.inl rfl)) (by omega) r2
                  rwa [decide_eq_true r1] at this
                have ixO := fun G => ix_rwX 0 (H0 := G) (A := .sl 2 (rowsA s4.rows)) (.inl (.inl rfl)) G (Ext.refl G) .i64 (j2 : Int) (by omega) (by omega)
                have ldO := fun G => ld_rwX 0 (H0 := G) (A := .sl 2 (rowsA s4.rows)) (.inl (.inl rfl)) G (Ext.refl G) j2 hjl2
                repeat' (first
                 | refine zka ?_
                 | refine zkb ?_
                 | (apply RKp.op; ((try simp (disch := (first | omega | exact zX | exact zO | fail)) only [ixO, ldO, Int.toNat_natCast, ces_len, hlw, go_sem, Nat.reduceDiv, Nat.reduceMod, Nat.reduceAdd, Nat.reduceSub, Nat.reduceEqDiff, Nat.reduceLeDiff, Nat.reduceLT, Nat.reduceMul, reduceIte, Nat.reducePow, Int.reduceEq]); exact zL); rfl)
                 | (apply RKp.callR; (apply hRow <;> (exact zD)); rfl; intro tr htr)
                 | refine zkc ?_
                 | apply RKg.tt
                 | apply RKg.ff
                 | refine zkd ?_
                 | refine zke ?_
                 | refine zkf ?_
                 | (refine RKg.split (fun h => ?_) (fun h => ?_) <;> (try rw [h]) <;> (replace h := zB h) <;> (try (exfalso; first | exact h | omega)))
                 | apply RK.nil
                 | apply V.sq
                 | apply V.bl
                 | apply V.sc
                 | apply V.skip
                 | apply V.label
                 | apply V.ret
                 | apply V.exit
                 | apply SeqQ.normal
                 | apply SeqQ.ret
                 | apply SeqQ.exit
                 | apply BlockQ.normal
                 | apply BlockQ.ret
                 | apply BlockQ.here
                 | refine zbt ?_
                 | apply LoopS.ret
                 | apply LoopS.exit
                 | apply LoopF.ret
                 | apply LoopF.exit
                 | apply V.regK
                 | refine zvd ?_
                 | refine zve ?_
                 | (refine zvf (fun h => ?_) (fun h => ?_) <;> (replace h := zB h) <;> (try (exfalso; first | exact h | omega)))
                  | (refine zfc Tryz.results11 ?_; (try dsimp only)))
                exact LoopS.again (s4.rows.length - (j2 + 1)) (by rfl) (by omega) ⟨j2 + 1, _, rfl, rfl, by omega, hx6.push _⟩
              · repeat' (first
                 | refine zka ?_
                 | refine zkb ?_
                 | (apply RKp.op; ((try simp (disch := (first | omega | exact zX | exact zO | fail)) only [hlr4, go_sem, Nat.reduceDiv, Nat.reduceMod, Nat.reduceAdd, Nat.reduceSub, Nat.reduceEqDiff, Nat.reduceLeDiff, Nat.reduceLT, Nat.reduceMul, reduceIte, Nat.reducePow, Int.reduceEq]); exact zL); rfl)
                 | refine zkc ?_
                 | apply RKg.tt
                 | apply RKg.ff
                 | refine zkd ?_
                 | refine zke ?_
                 | refine zkf ?_
                 | (refine RKg.split (fun h => ?_) (fun h => ?_) <;> (try rw [h]) <;> (replace h := zB h) <;> (try (exfalso; first | exact h | omega)))
                 | apply RK.nil
                 | apply V.sq
                 | apply V.bl
                 | apply V.sc
                 | apply V.skip
                 | apply V.label
                 | apply V.ret
                 | apply V.exit
                 | apply SeqQ.normal
                 | apply SeqQ.ret
                 | apply SeqQ.exit
                 | apply BlockQ.normal
                 | apply BlockQ.ret
                 | apply BlockQ.here
                 | refine zbt ?_
                 | apply LoopS.ret
                 | apply LoopS.exit
                 | apply LoopF.ret
                 | apply LoopF.exit
                 | apply V.regK
                 | refine zvd ?_
                 | refine zve ?_
                 | (refine zvf (fun h => ?_) (fun h => ?_) <;> (replace h := zB h) <;> (try (exfalso; first | exact h | omega)))
                  | (refine zfc Tryz.results11 ?_; (try dsimp only)))
                have f6 := hx6.next
                refine LoopS.again (l.length - (i + 1)) (by rfl) (by omega) ⟨i + 1, _, m4, e4, _, rfl, rfl, by omega, by omega, ?_, ?_, hFn3, ?_, hFl3, hnn, by omega⟩
                · rw [hfs]; exact hS4.ext hx6
                · rw [hfs]; exact ((hP3.ext ((Ext.refl _).push _)).fr hF4 hFn3 hFm3).ext hx6
                · rcases f4 with f4 | f4
                  · rw [f4]; exact hFm3
                  · intro h; have := hP3.fl _ h; omega
    · repeat' (first
       | refine zka ?_
       | refine zkb ?_
       | (apply RKp.op; ((try simp (disch := (first | omega | exact zX | exact zO | fail)) only [lnL, go_sem, Nat.reduceDiv, Nat.reduceMod, Nat.reduceAdd, Nat.reduceSub, Nat.reduceEqDiff, Nat.reduceLeDiff, Nat.reduceLT, Nat.reduceMul, reduceIte, Nat.reducePow, Int.reduceEq]); exact zL); rfl)
       | refine zkc ?_
       | apply RKg.tt
       | apply RKg.ff
       | refine zkd ?_
       | refine zke ?_
       | refine zkf ?_
       | (refine RKg.split (fun h => ?_) (fun h => ?_) <;> (try rw [h]) <;> (replace h := zB h) <;> (try (exfalso; first | exact h | omega)))
       | apply RK.nil
       | apply V.sq
       | apply V.bl
       | apply V.sc
       | apply V.skip
       | apply V.label
       | apply V.ret
       | apply V.exit
       | apply SeqQ.normal
       | apply SeqQ.ret
       | apply SeqQ.exit
       | apply BlockQ.normal
       | apply BlockQ.ret
       | apply BlockQ.here
       | refine zbt ?_
       | apply LoopS.ret
       | apply LoopS.exit
       | apply LoopF.ret
       | apply LoopF.exit
       | apply V.regK
       | refine zvd ?_
       | refine zve ?_
       | (refine zvf (fun h => ?_) (fun h => ?_) <;> (replace h := zB h) <;> (try (exfalso; first | exact h | omega)))
        | (refine zfc Tryz.results11 ?_; (try dsimp only)))
theorem wd_runesE {d : Nat} {es : List (List AV)} (h : ∀ c ∈ es, Wd Tryz.prog (d + 1) 21 c) : ∃ a : List Int, es = runes a ∧ ∀ c ∈ a, -2147483648 ≤ c ∧ c ≤ 2147483647 := by
  induction es with
  | nil => exact ⟨[], rfl, by simp⟩
  | cons c r ih =>
    have h0 := h c List.mem_cons_self
    simp only [Wd, Tryz.underlying21] at h0
    obtain ⟨x, rfl, hx⟩ := h0
    obtain ⟨l, rfl, hl⟩ := ih fun c hc => h c (List.mem_cons_of_mem _ hc)
    refine ⟨x :: l, rfl, fun c hc => ?_⟩
    rcases List.mem_cons.1 hc with rfl | hc
    · exact i32_wf hx
    · exact hl c hc
theorem wd_runes {d : Nat} {u : List AV} (h : Wd Tryz.prog (d + 2) 22 u) : ∃ (A : AV) (a : List Int), u = [A] ∧ Sl 1 A (runes a) ∧ a.length < 2 ^ 63 ∧ ∀ c ∈ a, -2147483648 ≤ c ∧ c ≤ 2147483647 := by
  unfold Wd at h
  rw [Tryz.underlying22] at h
  obtain ⟨x, es, rfl, hs, hlen, he⟩ := h
  obtain ⟨a, rfl, ha⟩ := wd_runesE he
  have hc3 : Tryz.prog.cellsOf 21 = 1 := by kernel_rfl
  rw [hc3] at hs
  rw [runes_len] at hlen
  exact ⟨x, a, rfl, hs, by unfold maxLen at hlen; omega, ha⟩
theorem ScreenMay_run (w : Int) (hw : (Lit.int .i64 w).wf = true) (ht : Int) (hh : (Lit.int .i64 ht).wf = true) (v : List AV) (hv : Wd Tryz.prog 6 22 v) : WC EZ [] 0 11 [.v (.int .i64 w), .v (.int .i64 ht), v.getD 0 .dead] .empty fun x _ => x = .v (.bool true) := by
  obtain ⟨L, l, rfl, hL, hlen, hl⟩ := wd_runes (d := 4) hv
  exact ScreenMay_law hL hl hlen w ht (i64_wf hw) (i64_wf hh)
end
end Go.Am
