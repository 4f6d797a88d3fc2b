/- EscAll: both parsers, sign by sign. -/
import Derived.Test.YtoeemmlfcnokiaaGreatEsc4
import Derived.Test.YtoeemmlfcnokiaaGreatEscQ
set_option linter.all false
set_option linter.deprecated false
namespace Go.Am
open Go.Proofs
set_option maxRecDepth 8000
set_option maxHeartbeats 1000000
section
variable {ys : List (Nat × LRec)} {lo : Nat} {H : AHeap} {F : Nat → Prop} {n : Nat} {w : Int} {t : List Int}
structure Both (H : AHeap) (Fp Fw : Nat → Prop) (w : Int) (t : List Int) : Prop where
  p : ∃ A any sp X, PP H Fp 0 w t A any sp X
  r : ∃ T, RP H Fw 1 w t T
  fp : ∀ k, Fp k → k < H.next
  fw : ∀ k, Fw k → k < H.next
  dis : ∀ k, Fp k → ¬ Fw k
theorem put_args (w : Int) (t : List Int) (r : Int) (ev : Ev) (h : (put w t r).2.2 = some ev) : ev.args.length ≤ 8 := by
  have h1 : ∀ ev, oscEv t = some ev → ev.args.length ≤ 8 := by
    intro ev h
    unfold oscEv at h
    split at h <;> cases h
    simp
  have h2 : ∀ ev, csiEv t r = some ev → ev.args.length ≤ 8 := by
    intro ev h
    unfold csiEv at h
    split at h <;> cases h
    dsimp only
    split
    · simp
    · rw [List.length_take]; omega
  unfold put at h
  (repeat' split at h) <;> first | exact h1 ev h | exact h2 ev h | (cases h; done) | (cases h; simp)
/-- One sign, put to both. -/
theorem Both.step {Fp Fw : Nat → Prop} (hB : Both H Fp Fw w t) (r : Int) (hr : -2147483648 ≤ r ∧ r ≤ 2147483647) (ht : t.length < 2 ^ 20) (hc : ∀ c ∈ t, -2147483648 ≤ c ∧ c ≤ 2147483647) :
    ∃ R H1 k r' A s H2, CallR EZ ys 0 15 [.op 0 0 0 0, .v (.int .i32 r)] H R H1 ⟨0, 0, 2⟩ ∧
      CallR EZ ys 0 16 [.op 1 0 0 0, .v (.int .i32 r)] H1 (.tup [evA k r' A s, .v (.bool (put w t r).2.2.isSome)]) H2 ⟨0, 0, 2⟩ ∧
      (∃ Fp' Fw', Both H2 Fp' Fw' (put w t r).1 (put w t r).2.1 ∧ EvR H2 Fp' R (put w t r).2.2) ∧ H.next ≤ H2.next ∧
      ∀ ev, (put w t r).2.2 = some ev → k = ev.kind ∧ r' = ev.r ∧ s = ev.text ∧ Sl 1 A (ints ev.args) := by
  obtain ⟨⟨A0, any, sp, X, hP⟩, ⟨T, hR⟩, hfp, hfw, hd⟩ := hB
  obtain ⟨R, H1, ⟨hT1, ⟨A1, any1, sp1, X1, hP1⟩, hE1⟩, hc1⟩ := WC.eff (ys := ys) (lo := 0) (E := EZ) (f := 15) rfl (escPut_wc (fun _ _ => Nat.zero_le _) hfp hP r hr ht)
  have hR1 : RP H1 Fw 1 w t T := hR.keep (fun k h => h) hT1.next fun k hk hl => hT1.keep k hl fun h => hd k h hk
  have hfw1 : ∀ k, Fw k → k < H1.next := fun k hk => Nat.lt_of_lt_of_le (hfw k hk) hT1.next
  obtain ⟨y, H2, ⟨hT2, ⟨T2, hR2⟩, k, r', A, s, rfl, hev⟩, hc2⟩ := WC.eff (ys := ys) (lo := 0) (E := EZ) (f := 16) rfl (refPutP_wc (fun _ _ => Nat.zero_le _) hfw1 hR1 r hr ht hc)
  have hdis : ∀ k, grow Fp H H1 k → ¬ Fw k := by
    rintro k (h | ⟨h, _⟩) hw
    · exact hd k h hw
    · have := hfw k hw; omega
  have hfp1 : ∀ k, grow Fp H H1 k → k < H1.next := by
    rintro k (h | ⟨_, h⟩)
    · exact Nat.lt_of_lt_of_le (hfp k h) hT1.next
    · exact h
  have hP2 : PP H2 (grow Fp H H1) 0 (put w t r).1 (put w t r).2.1 A1 any1 sp1 X1 := hP1.keep (fun k h => h) hT2.next fun k hk hl => hT2.keep k hl (hdis k hk)
  refine ⟨R, H1, k, r', A, s, H2, hc1, hc2, ⟨grow Fp H H1, grow Fw H1 H2, ⟨⟨_, _, _, _, hP2⟩, ⟨_, hR2⟩, fun k hk => Nat.lt_of_lt_of_le (hfp1 k hk) hT2.next, ?_, ?_⟩, ?_⟩, Nat.le_trans hT1.next hT2.next, hev⟩
  · rintro k (h | ⟨_, h⟩)
    · exact Nat.lt_of_lt_of_le (hfw1 k h) hT2.next
    · exact h
  · rintro k hk (h | ⟨h, _⟩)
    · exact hdis k hk h
    · have := hfp1 k hk; omega
  · cases he : (put w t r).2.2 with
    | none => rw [he] at hE1; exact hE1
    | some ev =>
      rw [he] at hE1
      obtain ⟨k1, A2, h1, h2, h3, h4, h5, h6⟩ := hE1
      exact ⟨k1, A2, h1, h2, Nat.lt_of_lt_of_le h3 hT2.next, by rw [hT2.keep k1 h3 (hdis k1 h2), h4], h5.turn hT2 (fun m ⟨e, off, len, hm⟩ => hdis m (h6 m e off len hm)), h6⟩
theorem EscAll_wc (L : AV) (l : List Int) (hL : Sl 1 L (runes l)) (hr : ∀ c ∈ l, -2147483648 ≤ c ∧ c ≤ 2147483647) : WC EZ [] 0 3 [L] .empty fun x _ => x = .v (.bool true) := by
  refine WC.enter Tryz.func3 rfl (Nat.le_of_ble_eq_true rfl) (by simp only [Slots.of, Tryz.ntmps3, Nat.reduceAdd, Nat.reduceDiv, rows8P, row8]; rfl) ?_
  repeat' (first
   | apply V.sq
   | apply V.bl
   | apply V.sc
   | apply V.skip
   | apply V.label
   | apply V.ret
   | apply V.exit
   | apply SeqQ.normal
   | apply SeqQ.ret
   | apply SeqQ.exit
   | apply BlockQ.normal
   | apply BlockQ.ret
   | apply BlockQ.here
   | (apply BlockQ.there; decide)
   | apply LoopS.ret
   | apply LoopS.exit
   | apply LoopF.ret
   | apply LoopF.exit
   | (apply V.reg; (focus ((repeat (first
   | exact RO.nil
   | (apply RO.op; rfl; (simp only [go_sem, Nat.reduceDiv, Nat.reduceMod, Nat.reduceAdd, Nat.reduceSub, Nat.reduceEqDiff, Nat.reduceLeDiff, Nat.reduceLT, Nat.reduceMul, reduceIte, Nat.reducePow, Int.reduceEq, List.toList_toArray]; (first | rfl | (apply ite_ok; (first | assumption | rfl | omega | (refine ⟨?_, ?_⟩ <;> omega)); rfl))); rfl)
   | (apply RO.opg; (first | (apply wantT; rfl; rfl; (simp only [Nat.reduceDiv, Nat.reduceMod, get_nth, nth_zero, nth_succ]; rfl)) | (apply wantF; rfl; rfl; (simp only [Nat.reduceDiv, Nat.reduceMod, get_nth, nth_zero, nth_succ]; rfl)) | (apply wantTg; rfl; rfl; (simp only [Nat.reduceDiv, Nat.reduceMod, get_nth, nth_zero, nth_succ]; rfl)) | (apply wantFg; rfl; rfl; (simp only [Nat.reduceDiv, Nat.reduceMod, get_nth, nth_zero, nth_succ]; rfl)) | (apply wantU; rfl; rfl; (simp only [Nat.reduceDiv, Nat.reduceMod, get_nth, nth_zero, nth_succ]; rfl))); (intro h; (try simp only [Bool.and_eq_true, Bool.not_eq_true', Bool.not_eq_eq_eq_not, Bool.not_true] at h); simp only [h, go_sem, Nat.reduceDiv, Nat.reduceMod, Nat.reduceAdd, Nat.reduceSub, Nat.reduceEqDiff, Nat.reduceLeDiff, Nat.reduceLT, Nat.reduceMul, reduceIte, Nat.reducePow, Int.reduceEq, List.toList_toArray]; (first | rfl | (apply ite_ok; (first | assumption | rfl | omega | (refine ⟨?_, ?_⟩ <;> omega)); rfl))); rfl)
   | (apply RO.call; exact want0 rfl; (simp only [go_sem, Nat.reduceDiv, Nat.reduceMod, Nat.reduceAdd, Nat.reduceSub, Nat.reduceEqDiff, Nat.reduceLeDiff, Nat.reduceLT, Nat.reduceMul, reduceIte, Nat.reducePow, Int.reduceEq, List.toList_toArray]; rfl); (first | (apply begun_call <;> (first | assumption | rfl | omega | (refine ⟨?_, ?_⟩ <;> omega)))); rfl)
   | (apply RO.callg; (first | (apply wantT; rfl; rfl; (simp only [Nat.reduceDiv, Nat.reduceMod, get_nth, nth_zero, nth_succ]; rfl)) | (apply wantF; rfl; rfl; (simp only [Nat.reduceDiv, Nat.reduceMod, get_nth, nth_zero, nth_succ]; rfl)) | (apply wantTg; rfl; rfl; (simp only [Nat.reduceDiv, Nat.reduceMod, get_nth, nth_zero, nth_succ]; rfl)) | (apply wantFg; rfl; rfl; (simp only [Nat.reduceDiv, Nat.reduceMod, get_nth, nth_zero, nth_succ]; rfl)) | (apply wantU; rfl; rfl; (simp only [Nat.reduceDiv, Nat.reduceMod, get_nth, nth_zero, nth_succ]; rfl))); (intro h; (try simp only [Bool.and_eq_true, Bool.not_eq_true', Bool.not_eq_eq_eq_not, Bool.not_true] at h); simp only [h, go_sem, Nat.reduceDiv, Nat.reduceMod, Nat.reduceAdd, Nat.reduceSub, Nat.reduceEqDiff, Nat.reduceLeDiff, Nat.reduceLT, Nat.reduceMul, reduceIte, Nat.reducePow, Int.reduceEq, List.toList_toArray]; rfl); (intro h; (try simp only [Bool.and_eq_true, Bool.not_eq_true', Bool.not_eq_eq_eq_not, Bool.not_true] at h); (first | (apply begun_call <;> (first | assumption | rfl | omega | (refine ⟨?_, ?_⟩ <;> omega))))); rfl)
   | (apply RO.no; apply wantNo; (first | (apply wantT; rfl; rfl; (simp only [Nat.reduceDiv, Nat.reduceMod, get_nth, nth_zero, nth_succ]; rfl)) | (apply wantF; rfl; rfl; (simp only [Nat.reduceDiv, Nat.reduceMod, get_nth, nth_zero, nth_succ]; rfl)) | (apply wantTg; rfl; rfl; (simp only [Nat.reduceDiv, Nat.reduceMod, get_nth, nth_zero, nth_succ]; rfl)) | (apply wantFg; rfl; rfl; (simp only [Nat.reduceDiv, Nat.reduceMod, get_nth, nth_zero, nth_succ]; rfl)) | (apply wantU; rfl; rfl; (simp only [Nat.reduceDiv, Nat.reduceMod, get_nth, nth_zero, nth_succ]; rfl))); (first | rfl | (simp only [Bool.and_false, Bool.false_and, Bool.not_true, Bool.not_false, decide_true, decide_false, Bool.or_true, Bool.true_or, not_true_eq_false, not_false_eq_true, Bool.and_true, Bool.true_and]; done)); rfl))); done)))
   | (apply V.regd; (focus ((repeat (first
   | exact RO.nil
   | (apply RO.op; rfl; (simp only [go_sem, Nat.reduceDiv, Nat.reduceMod, Nat.reduceAdd, Nat.reduceSub, Nat.reduceEqDiff, Nat.reduceLeDiff, Nat.reduceLT, Nat.reduceMul, reduceIte, Nat.reducePow, Int.reduceEq, List.toList_toArray]; (first | rfl | (apply ite_ok; (first | assumption | rfl | omega | (refine ⟨?_, ?_⟩ <;> omega)); rfl))); rfl)
   | (apply RO.opg; (first | (apply wantT; rfl; rfl; (simp only [Nat.reduceDiv, Nat.reduceMod, get_nth, nth_zero, nth_succ]; rfl)) | (apply wantF; rfl; rfl; (simp only [Nat.reduceDiv, Nat.reduceMod, get_nth, nth_zero, nth_succ]; rfl)) | (apply wantTg; rfl; rfl; (simp only [Nat.reduceDiv, Nat.reduceMod, get_nth, nth_zero, nth_succ]; rfl)) | (apply wantFg; rfl; rfl; (simp only [Nat.reduceDiv, Nat.reduceMod, get_nth, nth_zero, nth_succ]; rfl)) | (apply wantU; rfl; rfl; (simp only [Nat.reduceDiv, Nat.reduceMod, get_nth, nth_zero, nth_succ]; rfl))); (intro h; (try simp only [Bool.and_eq_true, Bool.not_eq_true', Bool.not_eq_eq_eq_not, Bool.not_true] at h); simp only [h, go_sem, Nat.reduceDiv, Nat.reduceMod, Nat.reduceAdd, Nat.reduceSub, Nat.reduceEqDiff, Nat.reduceLeDiff, Nat.reduceLT, Nat.reduceMul, reduceIte, Nat.reducePow, Int.reduceEq, List.toList_toArray]; (first | rfl | (apply ite_ok; (first | assumption | rfl | omega | (refine ⟨?_, ?_⟩ <;> omega)); rfl))); rfl)
   | (apply RO.call; exact want0 rfl; (simp only [go_sem, Nat.reduceDiv, Nat.reduceMod, Nat.reduceAdd, Nat.reduceSub, Nat.reduceEqDiff, Nat.reduceLeDiff, Nat.reduceLT, Nat.reduceMul, reduceIte, Nat.reducePow, Int.reduceEq, List.toList_toArray]; rfl); (first | (apply begun_call <;> (first | assumption | rfl | omega | (refine ⟨?_, ?_⟩ <;> omega)))); rfl)
   | (apply RO.callg; (first | (apply wantT; rfl; rfl; (simp only [Nat.reduceDiv, Nat.reduceMod, get_nth, nth_zero, nth_succ]; rfl)) | (apply wantF; rfl; rfl; (simp only [Nat.reduceDiv, Nat.reduceMod, get_nth, nth_zero, nth_succ]; rfl)) | (apply wantTg; rfl; rfl; (simp only [Nat.reduceDiv, Nat.reduceMod, get_nth, nth_zero, nth_succ]; rfl)) | (apply wantFg; rfl; rfl; (simp only [Nat.reduceDiv, Nat.reduceMod, get_nth, nth_zero, nth_succ]; rfl)) | (apply wantU; rfl; rfl; (simp only [Nat.reduceDiv, Nat.reduceMod, get_nth, nth_zero, nth_succ]; rfl))); (intro h; (try simp only [Bool.and_eq_true, Bool.not_eq_true', Bool.not_eq_eq_eq_not, Bool.not_true] at h); simp only [h, go_sem, Nat.reduceDiv, Nat.reduceMod, Nat.reduceAdd, Nat.reduceSub, Nat.reduceEqDiff, Nat.reduceLeDiff, Nat.reduceLT, Nat.reduceMul, reduceIte, Nat.reducePow, Int.reduceEq, List.toList_toArray]; rfl); (intro h; (try simp only [Bool.and_eq_true, Bool.not_eq_true', Bool.not_eq_eq_eq_not, Bool.not_true] at h); (first | (apply begun_call <;> (first | assumption | rfl | omega | (refine ⟨?_, ?_⟩ <;> omega))))); rfl)
   | (apply RO.no; apply wantNo; (first | (apply wantT; rfl; rfl; (simp only [Nat.reduceDiv, Nat.reduceMod, get_nth, nth_zero, nth_succ]; rfl)) | (apply wantF; rfl; rfl; (simp only [Nat.reduceDiv, Nat.reduceMod, get_nth, nth_zero, nth_succ]; rfl)) | (apply wantTg; rfl; rfl; (simp only [Nat.reduceDiv, Nat.reduceMod, get_nth, nth_zero, nth_succ]; rfl)) | (apply wantFg; rfl; rfl; (simp only [Nat.reduceDiv, Nat.reduceMod, get_nth, nth_zero, nth_succ]; rfl)) | (apply wantU; rfl; rfl; (simp only [Nat.reduceDiv, Nat.reduceMod, get_nth, nth_zero, nth_succ]; rfl))); (first | rfl | (simp only [Bool.and_false, Bool.false_and, Bool.not_true, Bool.not_false, decide_true, decide_false, Bool.or_true, Bool.true_or, not_true_eq_false, not_false_eq_true, Bool.and_true, Bool.true_and]; done)); rfl))); done)); (focus kernel_rfl); (focus (first | (apply okPairs_kinds; (focus ((repeat (first | exact Kinds.nil | (apply Kinds.ro; (first | exact RoT.zero | exact RoT.rd | exact RoT.all | exact RoT.rdTr _ | assumption)) | apply Kinds.any)); done)); decide +kernel) | kernel_rfl)))
   | (refine V.cond rfl (fun h => ?_) (fun h => ?_) <;> (try simp only [decide_eq_true_eq, decide_eq_false_iff_not, Bool.and_eq_true, Bool.or_eq_true, Bool.and_eq_false_iff, Bool.or_eq_false_iff, Bool.not_eq_true', Bool.not_eq_false', Bool.not_true, Bool.not_false, Classical.not_not, Int.not_lt, Int.not_le, reduceCtorEq, not_true_eq_false, not_false_eq_true, decide_true, decide_false, Int.reduceEq, Int.reduceLT, Int.reduceLE] at h) <;> (try (exfalso; omega)))
   | (refine FnQ.normal (res0 Tryz.results3) rfl ?_; (try dsimp only))
   | (refine FnQ.ret (res0 Tryz.results3) rfl ?_; (try dsimp only))
   | (refine FnQ.ret (res1 Tryz.results3) (by simp only [Nat.reduceDiv, Nat.reduceMod, get_nth, nth_zero, nth_succ]; rfl) ?_; (try dsimp only))
   | (refine FnQ.ret (res2 Tryz.results3) (by simp only [Nat.reduceDiv, Nat.reduceMod, get_nth, nth_zero, nth_succ]; rfl) ?_; (try dsimp only))
   | (refine FnQ.retB (resc Tryz.results3) (by simp only [cellR_op, go_sem, Nat.reduceDiv, Nat.reduceMod, Nat.reduceAdd, Nat.reduceSub, Nat.reduceEqDiff, Nat.reduceLeDiff, Nat.reduceLT, Nat.reduceMul, reduceIte, Nat.reducePow, Int.reduceEq, List.toList_toArray]; rfl) ?_; (try dsimp only))
   | (refine FnQ.retB (resct Tryz.results3) (by simp only [cellR_op, go_sem, Nat.reduceDiv, Nat.reduceMod, Nat.reduceAdd, Nat.reduceSub, Nat.reduceEqDiff, Nat.reduceLeDiff, Nat.reduceLT, Nat.reduceMul, reduceIte, Nat.reducePow, Int.reduceEq, List.toList_toArray]; rfl) ?_; (try dsimp only)))
  apply V.lpS [6, 2, 7, 8, 9, 17, 18, 19, 20, 21, 22, 23, 24, 25, 26, 27, 28, 29, 30, 31, 32, 33, 34, 35, 36, 37, 38, 39, 40, 41, 42, 43, 44, 45, 46, 47, 48, 49, 50, 51, 52, 53, 54, 55, 56, 57, 58, 59, 60, 61, 62, 63, 64, 65, 66, 67] (fun m xs H => ∃ (i : Nat) (g : _) (Fp Fw : Nat → Prop) (w : Int) (t : List Int), xs = .v (.int .i64 i) :: g ∧ m = 120 - i ∧ i ≤ 120 ∧ i ≤ l.length ∧ Both H Fp Fw w t ∧ t.length ≤ i ∧ ∀ c ∈ t, -2147483648 ≤ c ∧ c ≤ 2147483647) 120
  focus (intro xs; simp only [putMany, set2, Nat.reduceAdd, Nat.reduceDiv, Nat.reduceMod, nth_zero, nth_succ, List.set_cons_zero, List.set_cons_succ]; rfl)
  focus (first | rfl | simp only [readMany, nth_zero, nth_succ, Nat.reduceDiv, Nat.reduceMod])
  · refine ⟨0, _, (· = 0), (· = 1), 0, [], rfl, rfl, by omega, Nat.zero_le _, ⟨⟨nilA, false, false, nilA, rfl, by decide, rfl, rfl, rfl, by omega, fun h => by omega, fun h => by omega⟩, ⟨nilA, rfl, by decide, rfl, rfl, by omega, fun h => by omega⟩, ?_, ?_, ?_⟩, Nat.le_refl _, by simp⟩
    · rintro k rfl; decide
    · rintro k rfl; decide
    · rintro k rfl; decide
  · rintro m xs H ⟨i, g, Fp, Fw, w, t, rfl, rfl, hi, hil, hB, htl, htr⟩
    have hLH : SlH H 1 L (runes l) := .inl hL
    repeat' (first
     | apply V.sq
     | apply V.bl
     | apply V.sc
     | apply V.skip
     | apply V.label
     | apply V.ret
     | apply V.exit
     | apply SeqQ.normal
     | apply SeqQ.ret
     | apply SeqQ.exit
     | apply BlockQ.normal
     | apply BlockQ.ret
     | apply BlockQ.here
     | (apply BlockQ.there; decide)
     | apply LoopS.ret
     | apply LoopS.exit
     | apply LoopF.ret
     | apply LoopF.exit
     | (apply V.reg; (focus ((repeat (first
     | exact RO.nil
     | (apply RO.op; rfl; (simp only [len_SlH EZ 0 _ _ hLH, runes_len, go_sem, Nat.reduceDiv, Nat.reduceMod, Nat.reduceAdd, Nat.reduceSub, Nat.reduceEqDiff, Nat.reduceLeDiff, Nat.reduceLT, Nat.reduceMul, reduceIte, Nat.reducePow, Int.reduceEq, List.toList_toArray]; (first | rfl | (apply ite_ok; (first | assumption | rfl | omega | (refine ⟨?_, ?_⟩ <;> omega)); rfl))); rfl)
     | (apply RO.opg; (first | (apply wantT; rfl; rfl; (simp only [Nat.reduceDiv, Nat.reduceMod, get_nth, nth_zero, nth_succ]; rfl)) | (apply wantF; rfl; rfl; (simp only [Nat.reduceDiv, Nat.reduceMod, get_nth, nth_zero, nth_succ]; rfl)) | (apply wantTg; rfl; rfl; (simp only [Nat.reduceDiv, Nat.reduceMod, get_nth, nth_zero, nth_succ]; rfl)) | (apply wantFg; rfl; rfl; (simp only [Nat.reduceDiv, Nat.reduceMod, get_nth, nth_zero, nth_succ]; rfl)) | (apply wantU; rfl; rfl; (simp only [Nat.reduceDiv, Nat.reduceMod, get_nth, nth_zero, nth_succ]; rfl))); (intro h; (try simp only [Bool.and_eq_true, Bool.not_eq_true', Bool.not_eq_eq_eq_not, Bool.not_true] at h); simp only [h, len_SlH EZ 0 _ _ hLH, runes_len, go_sem, Nat.reduceDiv, Nat.reduceMod, Nat.reduceAdd, Nat.reduceSub, Nat.reduceEqDiff, Nat.reduceLeDiff, Nat.reduceLT, Nat.reduceMul, reduceIte, Nat.reducePow, Int.reduceEq, List.toList_toArray]; (first | rfl | (apply ite_ok; (first | assumption | rfl | omega | (refine ⟨?_, ?_⟩ <;> omega)); rfl))); rfl)
     | (apply RO.call; exact want0 rfl; (simp only [len_SlH EZ 0 _ _ hLH, runes_len, go_sem, Nat.reduceDiv, Nat.reduceMod, Nat.reduceAdd, Nat.reduceSub, Nat.reduceEqDiff, Nat.reduceLeDiff, Nat.reduceLT, Nat.reduceMul, reduceIte, Nat.reducePow, Int.reduceEq, List.toList_toArray]; rfl); fail; rfl)
     | (apply RO.callg; (first | (apply wantT; rfl; rfl; (simp only [Nat.reduceDiv, Nat.reduceMod, get_nth, nth_zero, nth_succ]; rfl)) | (apply wantF; rfl; rfl; (simp only [Nat.reduceDiv, Nat.reduceMod, get_nth, nth_zero, nth_succ]; rfl)) | (apply wantTg; rfl; rfl; (simp only [Nat.reduceDiv, Nat.reduceMod, get_nth, nth_zero, nth_succ]; rfl)) | (apply wantFg; rfl; rfl; (simp only [Nat.reduceDiv, Nat.reduceMod, get_nth, nth_zero, nth_succ]; rfl)) | (apply wantU; rfl; rfl; (simp only [Nat.reduceDiv, Nat.reduceMod, get_nth, nth_zero, nth_succ]; rfl))); (intro h; (try simp only [Bool.and_eq_true, Bool.not_eq_true', Bool.not_eq_eq_eq_not, Bool.not_true] at h); simp only [h, len_SlH EZ 0 _ _ hLH, runes_len, go_sem, Nat.reduceDiv, Nat.reduceMod, Nat.reduceAdd, Nat.reduceSub, Nat.reduceEqDiff, Nat.reduceLeDiff, Nat.reduceLT, Nat.reduceMul, reduceIte, Nat.reducePow, Int.reduceEq, List.toList_toArray]; rfl); (intro h; (try simp only [Bool.and_eq_true, Bool.not_eq_true', Bool.not_eq_eq_eq_not, Bool.not_true] at h); fail); rfl)
     | (apply RO.no; apply wantNo; (first | (apply wantT; rfl; rfl; (simp only [Nat.reduceDiv, Nat.reduceMod, get_nth, nth_zero, nth_succ]; rfl)) | (apply wantF; rfl; rfl; (simp only [Nat.reduceDiv, Nat.reduceMod, get_nth, nth_zero, nth_succ]; rfl)) | (apply wantTg; rfl; rfl; (simp only [Nat.reduceDiv, Nat.reduceMod, get_nth, nth_zero, nth_succ]; rfl)) | (apply wantFg; rfl; rfl; (simp only [Nat.reduceDiv, Nat.reduceMod, get_nth, nth_zero, nth_succ]; rfl)) | (apply wantU; rfl; rfl; (simp only [Nat.reduceDiv, Nat.reduceMod, get_nth, nth_zero, nth_succ]; rfl))); (first | rfl | (simp only [len_SlH EZ 0 _ _ hLH, runes_len, Bool.and_false, Bool.false_and, Bool.not_true, Bool.not_false, decide_true, decide_false, Bool.or_true, Bool.true_or, not_true_eq_false, not_false_eq_true, Bool.and_true, Bool.true_and]; done)); rfl))); done)))
     | (apply V.regd; (focus ((repeat (first
     | exact RO.nil
     | (apply RO.op; rfl; (simp only [len_SlH EZ 0 _ _ hLH, runes_len, go_sem, Nat.reduceDiv, Nat.reduceMod, Nat.reduceAdd, Nat.reduceSub, Nat.reduceEqDiff, Nat.reduceLeDiff, Nat.reduceLT, Nat.reduceMul, reduceIte, Nat.reducePow, Int.reduceEq, List.toList_toArray]; (first | rfl | (apply ite_ok; (first | assumption | rfl | omega | (refine ⟨?_, ?_⟩ <;> omega)); rfl))); rfl)
     | (apply RO.opg; (first | (apply wantT; rfl; rfl; (simp only [Nat.reduceDiv, Nat.reduceMod, get_nth, nth_zero, nth_succ]; rfl)) | (apply wantF; rfl; rfl; (simp only [Nat.reduceDiv, Nat.reduceMod, get_nth, nth_zero, nth_succ]; rfl)) | (apply wantTg; rfl; rfl; (simp only [Nat.reduceDiv, Nat.reduceMod, get_nth, nth_zero, nth_succ]; rfl)) | (apply wantFg; rfl; rfl; (simp only [Nat.reduceDiv, Nat.reduceMod, get_nth, nth_zero, nth_succ]; rfl)) | (apply wantU; rfl; rfl; (simp only [Nat.reduceDiv, Nat.reduceMod, get_nth, nth_zero, nth_succ]; rfl))); (intro h; (try simp only [Bool.and_eq_true, Bool.not_eq_true', Bool.not_eq_eq_eq_not, Bool.not_true] at h); simp only [h, len_SlH EZ 0 _ _ hLH, runes_len, go_sem, Nat.reduceDiv, Nat.reduceMod, Nat.reduceAdd, Nat.reduceSub, Nat.reduceEqDiff, Nat.reduceLeDiff, Nat.reduceLT, Nat.reduceMul, reduceIte, Nat.reducePow, Int.reduceEq, List.toList_toArray]; (first | rfl | (apply ite_ok; (first | assumption | rfl | omega | (refine ⟨?_, ?_⟩ <;> omega)); rfl))); rfl)
     | (apply RO.call; exact want0 rfl; (simp only [len_SlH EZ 0 _ _ hLH, runes_len, go_sem, Nat.reduceDiv, Nat.reduceMod, Nat.reduceAdd, Nat.reduceSub, Nat.reduceEqDiff, Nat.reduceLeDiff, Nat.reduceLT, Nat.reduceMul, reduceIte, Nat.reducePow, Int.reduceEq, List.toList_toArray]; rfl); fail; rfl)
     | (apply RO.callg; (first | (apply wantT; rfl; rfl; (simp only [Nat.reduceDiv, Nat.reduceMod, get_nth, nth_zero, nth_succ]; rfl)) | (apply wantF; rfl; rfl; (simp only [Nat.reduceDiv, Nat.reduceMod, get_nth, nth_zero, nth_succ]; rfl)) | (apply wantTg; rfl; rfl; (simp only [Nat.reduceDiv, Nat.reduceMod, get_nth, nth_zero, nth_succ]; rfl)) | (apply wantFg; rfl; rfl; (simp only [Nat.reduceDiv, Nat.reduceMod, get_nth, nth_zero, nth_succ]; rfl)) | (apply wantU; rfl; rfl; (simp only [Nat.reduceDiv, Nat.reduceMod, get_nth, nth_zero, nth_succ]; rfl))); (intro h; (try simp only [Bool.and_eq_true, Bool.not_eq_true', Bool.not_eq_eq_eq_not, Bool.not_true] at h); simp only [h, len_SlH EZ 0 _ _ hLH, runes_len, go_sem, Nat.reduceDiv, Nat.reduceMod, Nat.reduceAdd, Nat.reduceSub, Nat.reduceEqDiff, Nat.reduceLeDiff, Nat.reduceLT, Nat.reduceMul, reduceIte, Nat.reducePow, Int.reduceEq, List.toList_toArray]; rfl); (intro h; (try simp only [Bool.and_eq_true, Bool.not_eq_true', Bool.not_eq_eq_eq_not, Bool.not_true] at h); fail); rfl)
     | (apply RO.no; apply wantNo; (first | (apply wantT; rfl; rfl; (simp only [Nat.reduceDiv, Nat.reduceMod, get_nth, nth_zero, nth_succ]; rfl)) | (apply wantF; rfl; rfl; (simp only [Nat.reduceDiv, Nat.reduceMod, get_nth, nth_zero, nth_succ]; rfl)) | (apply wantTg; rfl; rfl; (simp only [Nat.reduceDiv, Nat.reduceMod, get_nth, nth_zero, nth_succ]; rfl)) | (apply wantFg; rfl; rfl; (simp only [Nat.reduceDiv, Nat.reduceMod, get_nth, nth_zero, nth_succ]; rfl)) | (apply wantU; rfl; rfl; (simp only [Nat.reduceDiv, Nat.reduceMod, get_nth, nth_zero, nth_succ]; rfl))); (first | rfl | (simp only [len_SlH EZ 0 _ _ hLH, runes_len, Bool.and_false, Bool.false_and, Bool.not_true, Bool.not_false, decide_true, decide_false, Bool.or_true, Bool.true_or, not_true_eq_false, not_false_eq_true, Bool.and_true, Bool.true_and]; done)); rfl))); done)); (focus kernel_rfl); (focus (first | (apply okPairs_kinds; (focus ((repeat (first | exact Kinds.nil | (apply Kinds.ro; (first | exact RoT.zero | exact RoT.rd | exact RoT.all | exact RoT.rdTr _ | assumption)) | apply Kinds.any)); done)); decide +kernel) | kernel_rfl)))
     | (refine V.cond rfl (fun h => ?_) (fun h => ?_) <;> (try simp only [decide_eq_true_eq, decide_eq_false_iff_not, Bool.and_eq_true, Bool.or_eq_true, Bool.and_eq_false_iff, Bool.or_eq_false_iff, Bool.not_eq_true', Bool.not_eq_false', Bool.not_true, Bool.not_false, Classical.not_not, Int.not_lt, Int.not_le, reduceCtorEq, not_true_eq_false, not_false_eq_true, decide_true, decide_false, Int.reduceEq, Int.reduceLT, Int.reduceLE] at h) <;> (try (exfalso; omega)))
     | (refine FnQ.normal (res0 Tryz.results3) rfl ?_; (try dsimp only))
     | (refine FnQ.ret (res0 Tryz.results3) rfl ?_; (try dsimp only))
     | (refine FnQ.ret (res1 Tryz.results3) (by simp only [Nat.reduceDiv, Nat.reduceMod, get_nth, nth_zero, nth_succ]; rfl) ?_; (try dsimp only))
     | (refine FnQ.ret (res2 Tryz.results3) (by simp only [Nat.reduceDiv, Nat.reduceMod, get_nth, nth_zero, nth_succ]; rfl) ?_; (try dsimp only))
     | (refine FnQ.retB (resc Tryz.results3) (by simp only [cellR_op, len_SlH EZ 0 _ _ hLH, runes_len, go_sem, Nat.reduceDiv, Nat.reduceMod, Nat.reduceAdd, Nat.reduceSub, Nat.reduceEqDiff, Nat.reduceLeDiff, Nat.reduceLT, Nat.reduceMul, reduceIte, Nat.reducePow, Int.reduceEq, List.toList_toArray]; rfl) ?_; (try dsimp only))
     | (refine FnQ.retB (resct Tryz.results3) (by simp only [cellR_op, len_SlH EZ 0 _ _ hLH, runes_len, go_sem, Nat.reduceDiv, Nat.reduceMod, Nat.reduceAdd, Nat.reduceSub, Nat.reduceEqDiff, Nat.reduceLeDiff, Nat.reduceLT, Nat.reduceMul, reduceIte, Nat.reducePow, Int.reduceEq, List.toList_toArray]; rfl) ?_; (try dsimp only)))
    have h1 : i < l.length := by omega
    have h1' : (i : Int) < (l.length : Int) := by omega
    have hrc : -2147483648 ≤ l.getD i 0 ∧ l.getD i 0 ≤ 2147483647 := hr _ (by rw [List.getD_eq_getElem?_getD, List.getElem?_eq_getElem h1]; exact List.getElem_mem h1)
    obtain ⟨R, H1, k, r', A, s, H2, hc1, hc2, ⟨Fp', Fw', hB', hE⟩, hnx, hev⟩ := hB.step (ys := []) (l.getD i 0) hrc (by omega) htr
    unfold evA at hc2
    have hLH1 : SlH H1 1 L (runes l) := .inl hL
    repeat' (first
     | apply V.sq
     | apply V.bl
     | apply V.sc
     | apply V.skip
     | apply V.label
     | apply V.ret
     | apply V.exit
     | apply SeqQ.normal
     | apply SeqQ.ret
     | apply SeqQ.exit
     | apply BlockQ.normal
     | apply BlockQ.ret
     | apply BlockQ.here
     | (apply BlockQ.there; decide)
     | apply LoopS.ret
     | apply LoopS.exit
     | apply LoopF.ret
     | apply LoopF.exit
     | (apply V.reg; (focus ((repeat (first
     | exact RO.nil
     | (apply RO.op; rfl; (simp only [index_SlH EZ 0 _ _ _ hLH, load_SlH EZ 0 _ _ hLH, index_SlH EZ 0 _ _ _ hLH1, load_SlH EZ 0 _ _ hLH1, runes_len, h1, h1', nth_runes _ i h1, go_sem, Nat.reduceDiv, Nat.reduceMod, Nat.reduceAdd, Nat.reduceSub, Nat.reduceEqDiff, Nat.reduceLeDiff, Nat.reduceLT, Nat.reduceMul, reduceIte, Nat.reducePow, Int.reduceEq, List.toList_toArray]; (first | rfl | (apply ite_ok; (first | assumption | rfl | omega | (refine ⟨?_, ?_⟩ <;> omega)); rfl))); rfl)
     | (apply RO.opg; (first | (apply wantT; rfl; rfl; (simp only [Nat.reduceDiv, Nat.reduceMod, get_nth, nth_zero, nth_succ]; rfl)) | (apply wantF; rfl; rfl; (simp only [Nat.reduceDiv, Nat.reduceMod, get_nth, nth_zero, nth_succ]; rfl)) | (apply wantTg; rfl; rfl; (simp only [Nat.reduceDiv, Nat.reduceMod, get_nth, nth_zero, nth_succ]; rfl)) | (apply wantFg; rfl; rfl; (simp only [Nat.reduceDiv, Nat.reduceMod, get_nth, nth_zero, nth_succ]; rfl)) | (apply wantU; rfl; rfl; (simp only [Nat.reduceDiv, Nat.reduceMod, get_nth, nth_zero, nth_succ]; rfl))); (intro h; (try simp only [Bool.and_eq_true, Bool.not_eq_true', Bool.not_eq_eq_eq_not, Bool.not_true] at h); simp only [h, index_SlH EZ 0 _ _ _ hLH, load_SlH EZ 0 _ _ hLH, index_SlH EZ 0 _ _ _ hLH1, load_SlH EZ 0 _ _ hLH1, runes_len, h1, h1', nth_runes _ i h1, go_sem, Nat.reduceDiv, Nat.reduceMod, Nat.reduceAdd, Nat.reduceSub, Nat.reduceEqDiff, Nat.reduceLeDiff, Nat.reduceLT, Nat.reduceMul, reduceIte, Nat.reducePow, Int.reduceEq, List.toList_toArray]; (first | rfl | (apply ite_ok; (first | assumption | rfl | omega | (refine ⟨?_, ?_⟩ <;> omega)); rfl))); rfl)
     | (apply RO.call; exact want0 rfl; (simp only [index_SlH EZ 0 _ _ _ hLH, load_SlH EZ 0 _ _ hLH, index_SlH EZ 0 _ _ _ hLH1, load_SlH EZ 0 _ _ hLH1, runes_len, h1, h1', nth_runes _ i h1, go_sem, Nat.reduceDiv, Nat.reduceMod, Nat.reduceAdd, Nat.reduceSub, Nat.reduceEqDiff, Nat.reduceLeDiff, Nat.reduceLT, Nat.reduceMul, reduceIte, Nat.reducePow, Int.reduceEq, List.toList_toArray]; rfl); (first | (apply hc1 <;> (first | assumption | rfl | omega | (refine ⟨?_, ?_⟩ <;> omega))) | (apply hc2 <;> (first | assumption | rfl | omega | (refine ⟨?_, ?_⟩ <;> omega)))); rfl)
     | (apply RO.callg; (first | (apply wantT; rfl; rfl; (simp only [Nat.reduceDiv, Nat.reduceMod, get_nth, nth_zero, nth_succ]; rfl)) | (apply wantF; rfl; rfl; (simp only [Nat.reduceDiv, Nat.reduceMod, get_nth, nth_zero, nth_succ]; rfl)) | (apply wantTg; rfl; rfl; (simp only [Nat.reduceDiv, Nat.reduceMod, get_nth, nth_zero, nth_succ]; rfl)) | (apply wantFg; rfl; rfl; (simp only [Nat.reduceDiv, Nat.reduceMod, get_nth, nth_zero, nth_succ]; rfl)) | (apply wantU; rfl; rfl; (simp only [Nat.reduceDiv, Nat.reduceMod, get_nth, nth_zero, nth_succ]; rfl))); (intro h; (try simp only [Bool.and_eq_true, Bool.not_eq_true', Bool.not_eq_eq_eq_not, Bool.not_true] at h); simp only [h, index_SlH EZ 0 _ _ _ hLH, load_SlH EZ 0 _ _ hLH, index_SlH EZ 0 _ _ _ hLH1, load_SlH EZ 0 _ _ hLH1, runes_len, h1, h1', nth_runes _ i h1, go_sem, Nat.reduceDiv, Nat.reduceMod, Nat.reduceAdd, Nat.reduceSub, Nat.reduceEqDiff, Nat.reduceLeDiff, Nat.reduceLT, Nat.reduceMul, reduceIte, Nat.reducePow, Int.reduceEq, List.toList_toArray]; rfl); (intro h; (try simp only [Bool.and_eq_true, Bool.not_eq_true', Bool.not_eq_eq_eq_not, Bool.not_true] at h); (first | (apply hc1 <;> (first | assumption | rfl | omega | (refine ⟨?_, ?_⟩ <;> omega))) | (apply hc2 <;> (first | assumption | rfl | omega | (refine ⟨?_, ?_⟩ <;> omega))))); rfl)
     | (apply RO.no; apply wantNo; (first | (apply wantT; rfl; rfl; (simp only [Nat.reduceDiv, Nat.reduceMod, get_nth, nth_zero, nth_succ]; rfl)) | (apply wantF; rfl; rfl; (simp only [Nat.reduceDiv, Nat.reduceMod, get_nth, nth_zero, nth_succ]; rfl)) | (apply wantTg; rfl; rfl; (simp only [Nat.reduceDiv, Nat.reduceMod, get_nth, nth_zero, nth_succ]; rfl)) | (apply wantFg; rfl; rfl; (simp only [Nat.reduceDiv, Nat.reduceMod, get_nth, nth_zero, nth_succ]; rfl)) | (apply wantU; rfl; rfl; (simp only [Nat.reduceDiv, Nat.reduceMod, get_nth, nth_zero, nth_succ]; rfl))); (first | rfl | (simp only [index_SlH EZ 0 _ _ _ hLH, load_SlH EZ 0 _ _ hLH, index_SlH EZ 0 _ _ _ hLH1, load_SlH EZ 0 _ _ hLH1, runes_len, h1, h1', nth_runes _ i h1, Bool.and_false, Bool.false_and, Bool.not_true, Bool.not_false, decide_true, decide_false, Bool.or_true, Bool.true_or, not_true_eq_false, not_false_eq_true, Bool.and_true, Bool.true_and]; done)); rfl))); done)))
     | (apply V.regd; (focus ((repeat (first
     | exact RO.nil
     | (apply RO.op; rfl; (simp only [index_SlH EZ 0 _ _ _ hLH, load_SlH EZ 0 _ _ hLH, index_SlH EZ 0 _ _ _ hLH1, load_SlH EZ 0 _ _ hLH1, runes_len, h1, h1', nth_runes _ i h1, go_sem, Nat.reduceDiv, Nat.reduceMod, Nat.reduceAdd, Nat.reduceSub, Nat.reduceEqDiff, Nat.reduceLeDiff, Nat.reduceLT, Nat.reduceMul, reduceIte, Nat.reducePow, Int.reduceEq, List.toList_toArray]; (first | rfl | (apply ite_ok; (first | assumption | rfl | omega | (refine ⟨?_, ?_⟩ <;> omega)); rfl))); rfl)
     | (apply RO.opg; (first | (apply wantT; rfl; rfl; (simp only [Nat.reduceDiv, Nat.reduceMod, get_nth, nth_zero, nth_succ]; rfl)) | (apply wantF; rfl; rfl; (simp only [Nat.reduceDiv, Nat.reduceMod, get_nth, nth_zero, nth_succ]; rfl)) | (apply wantTg; rfl; rfl; (simp only [Nat.reduceDiv, Nat.reduceMod, get_nth, nth_zero, nth_succ]; rfl)) | (apply wantFg; rfl; rfl; (simp only [Nat.reduceDiv, Nat.reduceMod, get_nth, nth_zero, nth_succ]; rfl)) | (apply wantU; rfl; rfl; (simp only [Nat.reduceDiv, Nat.reduceMod, get_nth, nth_zero, nth_succ]; rfl))); (intro h; (try simp only [Bool.and_eq_true, Bool.not_eq_true', Bool.not_eq_eq_eq_not, Bool.not_true] at h); simp only [h, index_SlH EZ 0 _ _ _ hLH, load_SlH EZ 0 _ _ hLH, index_SlH EZ 0 _ _ _ hLH1, load_SlH EZ 0 _ _ hLH1, runes_len, h1, h1', nth_runes _ i h1, go_sem, Nat.reduceDiv, Nat.reduceMod, Nat.reduceAdd, Nat.reduceSub, Nat.reduceEqDiff, Nat.reduceLeDiff, Nat.reduceLT, Nat.reduceMul, reduceIte, Nat.reducePow, Int.reduceEq, List.toList_toArray]; (first | rfl | (apply ite_ok; (first | assumption | rfl | omega | (refine ⟨?_, ?_⟩ <;> omega)); rfl))); rfl)
     | (apply RO.call; exact want0 rfl; (simp only [index_SlH EZ 0 _ _ _ hLH, load_SlH EZ 0 _ _ hLH, index_SlH EZ 0 _ _ _ hLH1, load_SlH EZ 0 _ _ hLH1, runes_len, h1, h1', nth_runes _ i h1, go_sem, Nat.reduceDiv, Nat.reduceMod, Nat.reduceAdd, Nat.reduceSub, Nat.reduceEqDiff, Nat.reduceLeDiff, Nat.reduceLT, Nat.reduceMul, reduceIte, Nat.reducePow, Int.reduceEq, List.toList_toArray]; rfl); (first | (apply hc1 <;> (first | assumption | rfl | omega | (refine ⟨?_, ?_⟩ <;> omega))) | (apply hc2 <;> (first | assumption | rfl | omega | (refine ⟨?_, ?_⟩ <;> omega)))); rfl)
     | (apply RO.callg; (first | (apply wantT; rfl; rfl; (simp only [Nat.reduceDiv, Nat.reduceMod, get_nth, nth_zero, nth_succ]; rfl)) | (apply wantF; rfl; rfl; (simp only [Nat.reduceDiv, Nat.reduceMod, get_nth, nth_zero, nth_succ]; rfl)) | (apply wantTg; rfl; rfl; (simp only [Nat.reduceDiv, Nat.reduceMod, get_nth, nth_zero, nth_succ]; rfl)) | (apply wantFg; rfl; rfl; (simp only [Nat.reduceDiv, Nat.reduceMod, get_nth, nth_zero, nth_succ]; rfl)) | (apply wantU; rfl; rfl; (simp only [Nat.reduceDiv, Nat.reduceMod, get_nth, nth_zero, nth_succ]; rfl))); (intro h; (try simp only [Bool.and_eq_true, Bool.not_eq_true', Bool.not_eq_eq_eq_not, Bool.not_true] at h); simp only [h, index_SlH EZ 0 _ _ _ hLH, load_SlH EZ 0 _ _ hLH, index_SlH EZ 0 _ _ _ hLH1, load_SlH EZ 0 _ _ hLH1, runes_len, h1, h1', nth_runes _ i h1, go_sem, Nat.reduceDiv, Nat.reduceMod, Nat.reduceAdd, Nat.reduceSub, Nat.reduceEqDiff, Nat.reduceLeDiff, Nat.reduceLT, Nat.reduceMul, reduceIte, Nat.reducePow, Int.reduceEq, List.toList_toArray]; rfl); (intro h; (try simp only [Bool.and_eq_true, Bool.not_eq_true', Bool.not_eq_eq_eq_not, Bool.not_true] at h); (first | (apply hc1 <;> (first | assumption | rfl | omega | (refine ⟨?_, ?_⟩ <;> omega))) | (apply hc2 <;> (first | assumption | rfl | omega | (refine ⟨?_, ?_⟩ <;> omega))))); rfl)
     | (apply RO.no; apply wantNo; (first | (apply wantT; rfl; rfl; (simp only [Nat.reduceDiv, Nat.reduceMod, get_nth, nth_zero, nth_succ]; rfl)) | (apply wantF; rfl; rfl; (simp only [Nat.reduceDiv, Nat.reduceMod, get_nth, nth_zero, nth_succ]; rfl)) | (apply wantTg; rfl; rfl; (simp only [Nat.reduceDiv, Nat.reduceMod, get_nth, nth_zero, nth_succ]; rfl)) | (apply wantFg; rfl; rfl; (simp only [Nat.reduceDiv, Nat.reduceMod, get_nth, nth_zero, nth_succ]; rfl)) | (apply wantU; rfl; rfl; (simp only [Nat.reduceDiv, Nat.reduceMod, get_nth, nth_zero, nth_succ]; rfl))); (first | rfl | (simp only [index_SlH EZ 0 _ _ _ hLH, load_SlH EZ 0 _ _ hLH, index_SlH EZ 0 _ _ _ hLH1, load_SlH EZ 0 _ _ hLH1, runes_len, h1, h1', nth_runes _ i h1, Bool.and_false, Bool.false_and, Bool.not_true, Bool.not_false, decide_true, decide_false, Bool.or_true, Bool.true_or, not_true_eq_false, not_false_eq_true, Bool.and_true, Bool.true_and]; done)); rfl))); done)); (focus kernel_rfl); (focus (first | (apply okPairs_kinds; (focus ((repeat (first | exact Kinds.nil | (apply Kinds.ro; (first | exact RoT.zero | exact RoT.rd | exact RoT.all | exact RoT.rdTr _ | assumption)) | apply Kinds.any)); done)); decide +kernel) | kernel_rfl)))
     | (refine V.cond rfl (fun h => ?_) (fun h => ?_) <;> (try simp only [decide_eq_true_eq, decide_eq_false_iff_not, Bool.and_eq_true, Bool.or_eq_true, Bool.and_eq_false_iff, Bool.or_eq_false_iff, Bool.not_eq_true', Bool.not_eq_false', Bool.not_true, Bool.not_false, Classical.not_not, Int.not_lt, Int.not_le, reduceCtorEq, not_true_eq_false, not_false_eq_true, decide_true, decide_false, Int.reduceEq, Int.reduceLT, Int.reduceLE] at h) <;> (try (exfalso; omega)))
     | (refine FnQ.normal (res0 Tryz.results3) rfl ?_; (try dsimp only))
     | (refine FnQ.ret (res0 Tryz.results3) rfl ?_; (try dsimp only))
     | (refine FnQ.ret (res1 Tryz.results3) (by simp only [Nat.reduceDiv, Nat.reduceMod, get_nth, nth_zero, nth_succ]; rfl) ?_; (try dsimp only))
     | (refine FnQ.ret (res2 Tryz.results3) (by simp only [Nat.reduceDiv, Nat.reduceMod, get_nth, nth_zero, nth_succ]; rfl) ?_; (try dsimp only))
     | (refine FnQ.retB (resc Tryz.results3) (by simp only [cellR_op, index_SlH EZ 0 _ _ _ hLH, load_SlH EZ 0 _ _ hLH, index_SlH EZ 0 _ _ _ hLH1, load_SlH EZ 0 _ _ hLH1, runes_len, h1, h1', nth_runes _ i h1, go_sem, Nat.reduceDiv, Nat.reduceMod, Nat.reduceAdd, Nat.reduceSub, Nat.reduceEqDiff, Nat.reduceLeDiff, Nat.reduceLT, Nat.reduceMul, reduceIte, Nat.reducePow, Int.reduceEq, List.toList_toArray]; rfl) ?_; (try dsimp only))
     | (refine FnQ.retB (resct Tryz.results3) (by simp only [cellR_op, index_SlH EZ 0 _ _ _ hLH, load_SlH EZ 0 _ _ hLH, index_SlH EZ 0 _ _ _ hLH1, load_SlH EZ 0 _ _ hLH1, runes_len, h1, h1', nth_runes _ i h1, go_sem, Nat.reduceDiv, Nat.reduceMod, Nat.reduceAdd, Nat.reduceSub, Nat.reduceEqDiff, Nat.reduceLeDiff, Nat.reduceLT, Nat.reduceMul, reduceIte, Nat.reducePow, Int.reduceEq, List.toList_toArray]; rfl) ?_; (try dsimp only)))
    obtain ⟨A1, any1, sp1, X1, hP2⟩ := hB'.p
    obtain ⟨T2, hR2⟩ := hB'.r
    have hi1 := i64n i (by omega)
    have hn0 : ¬ H2.next = 0 := by have := hP2.lt; omega
    have hn1 : ¬ H2.next = 1 := by have := hR2.lt; omega
    have hb1 := hR2.blk
    unfold rBlk at hb1
    have hP3 : PP (H2.push ⟨35, 4, 0, [[.v (.int .i64 k), .v (.int .i32 r'), A, .v (.string s)]], none⟩) Fp' 0 (put w t (l.getD i 0)).1 (put w t (l.getD i 0)).2.1 A1 any1 sp1 X1 := hP2.keep (fun k h => h) (Nat.le_succ _) fun k hk hl => by rw [get_push, if_neg (by omega)]
    have hq := Quiet_run (ys := []) (lo := 0) hP3
    have hfin : ∀ b, Both (H2.push b) Fp' Fw' (put w t (l.getD i 0)).1 (put w t (l.getD i 0)).2.1 := fun b => ⟨⟨_, _, _, _, hP2.keep (fun k h => h) (Nat.le_succ _) fun k hk hl => by rw [get_push, if_neg (by omega)]⟩, ⟨_, hR2.keep (fun k h => h) (Nat.le_succ _) fun k hk hl => by rw [get_push, if_neg (by omega)]⟩, fun k hk => Nat.lt_succ_of_lt (hB'.fp k hk), fun k hk => Nat.lt_succ_of_lt (hB'.fw k hk), hB'.dis⟩
    have hmem := put_mem w t (l.getD i 0)
    have hlen := put_len w t (l.getD i 0)
    have hagain : ∀ c ∈ (put w t (l.getD i 0)).2.1, -2147483648 ≤ c ∧ c ≤ 2147483647 := fun c hc => (hmem c hc).elim (htr c) fun h => by rw [h]; exact hrc
    cases he : (put w t (l.getD i 0)).2.2 with
    | none =>
      rw [he] at hE
      have hRn : R = .v (.slice none 0 0) := hE
      subst hRn
      have hlR := len_Sl EZ 0 (H2.push ⟨35, 4, 0, [[.v (.int .i64 k), .v (.int .i32 r'), A, .v (.string s)]], none⟩) 32 3 (sz := 4) (x := .v (.slice none 0 0)) (es := []) (.inr ⟨rfl, .inr rfl⟩) (by kernel_rfl)
      repeat' (first
       | apply V.sq
       | apply V.bl
       | apply V.sc
       | apply V.skip
       | apply V.label
       | apply V.ret
       | apply V.exit
       | apply SeqQ.normal
       | apply SeqQ.ret
       | apply SeqQ.exit
       | apply BlockQ.normal
       | apply BlockQ.ret
       | apply BlockQ.here
       | (apply BlockQ.there; decide)
       | apply LoopS.ret
       | apply LoopS.exit
       | apply LoopF.ret
       | apply LoopF.exit
       | (apply V.reg; (focus ((repeat (first
       | exact RO.nil
       | (apply RO.op; rfl; (simp only [hn0, hn1, hb1, hlR, Option.isSome_none, Bool.false_eq_true, hi1, go_sem, Nat.reduceDiv, Nat.reduceMod, Nat.reduceAdd, Nat.reduceSub, Nat.reduceEqDiff, Nat.reduceLeDiff, Nat.reduceLT, Nat.reduceMul, reduceIte, Nat.reducePow, Int.reduceEq, List.toList_toArray]; (first | rfl | (apply ite_ok; (first | assumption | rfl | omega | (refine ⟨?_, ?_⟩ <;> omega)); rfl))); rfl)
       | (apply RO.opg; (first | (apply wantT; rfl; rfl; (simp only [Nat.reduceDiv, Nat.reduceMod, get_nth, nth_zero, nth_succ]; rfl)) | (apply wantF; rfl; rfl; (simp only [Nat.reduceDiv, Nat.reduceMod, get_nth, nth_zero, nth_succ]; rfl)) | (apply wantTg; rfl; rfl; (simp only [Nat.reduceDiv, Nat.reduceMod, get_nth, nth_zero, nth_succ]; rfl)) | (apply wantFg; rfl; rfl; (simp only [Nat.reduceDiv, Nat.reduceMod, get_nth, nth_zero, nth_succ]; rfl)) | (apply wantU; rfl; rfl; (simp only [Nat.reduceDiv, Nat.reduceMod, get_nth, nth_zero, nth_succ]; rfl))); (intro h; (try simp only [Bool.and_eq_true, Bool.not_eq_true', Bool.not_eq_eq_eq_not, Bool.not_true] at h); simp only [h, hn0, hn1, hb1, hlR, Option.isSome_none, Bool.false_eq_true, hi1, go_sem, Nat.reduceDiv, Nat.reduceMod, Nat.reduceAdd, Nat.reduceSub, Nat.reduceEqDiff, Nat.reduceLeDiff, Nat.reduceLT, Nat.reduceMul, reduceIte, Nat.reducePow, Int.reduceEq, List.toList_toArray]; (first | rfl | (apply ite_ok; (first | assumption | rfl | omega | (refine ⟨?_, ?_⟩ <;> omega)); rfl))); rfl)
       | (apply RO.call; exact want0 rfl; (simp only [hn0, hn1, hb1, hlR, Option.isSome_none, Bool.false_eq_true, hi1, go_sem, Nat.reduceDiv, Nat.reduceMod, Nat.reduceAdd, Nat.reduceSub, Nat.reduceEqDiff, Nat.reduceLeDiff, Nat.reduceLT, Nat.reduceMul, reduceIte, Nat.reducePow, Int.reduceEq, List.toList_toArray]; rfl); (first | (apply b2i_run <;> (first | assumption | rfl | omega | (refine ⟨?_, ?_⟩ <;> omega))) | (apply hq <;> (first | assumption | rfl | omega | (refine ⟨?_, ?_⟩ <;> omega)))); rfl)
       | (apply RO.callg; (first | (apply wantT; rfl; rfl; (simp only [Nat.reduceDiv, Nat.reduceMod, get_nth, nth_zero, nth_succ]; rfl)) | (apply wantF; rfl; rfl; (simp only [Nat.reduceDiv, Nat.reduceMod, get_nth, nth_zero, nth_succ]; rfl)) | (apply wantTg; rfl; rfl; (simp only [Nat.reduceDiv, Nat.reduceMod, get_nth, nth_zero, nth_succ]; rfl)) | (apply wantFg; rfl; rfl; (simp only [Nat.reduceDiv, Nat.reduceMod, get_nth, nth_zero, nth_succ]; rfl)) | (apply wantU; rfl; rfl; (simp only [Nat.reduceDiv, Nat.reduceMod, get_nth, nth_zero, nth_succ]; rfl))); (intro h; (try simp only [Bool.and_eq_true, Bool.not_eq_true', Bool.not_eq_eq_eq_not, Bool.not_true] at h); simp only [h, hn0, hn1, hb1, hlR, Option.isSome_none, Bool.false_eq_true, hi1, go_sem, Nat.reduceDiv, Nat.reduceMod, Nat.reduceAdd, Nat.reduceSub, Nat.reduceEqDiff, Nat.reduceLeDiff, Nat.reduceLT, Nat.reduceMul, reduceIte, Nat.reducePow, Int.reduceEq, List.toList_toArray]; rfl); (intro h; (try simp only [Bool.and_eq_true, Bool.not_eq_true', Bool.not_eq_eq_eq_not, Bool.not_true] at h); (first | (apply b2i_run <;> (first | assumption | rfl | omega | (refine ⟨?_, ?_⟩ <;> omega))) | (apply hq <;> (first | assumption | rfl | omega | (refine ⟨?_, ?_⟩ <;> omega))))); rfl)
       | (apply RO.no; apply wantNo; (first | (apply wantT; rfl; rfl; (simp only [Nat.reduceDiv, Nat.reduceMod, get_nth, nth_zero, nth_succ]; rfl)) | (apply wantF; rfl; rfl; (simp only [Nat.reduceDiv, Nat.reduceMod, get_nth, nth_zero, nth_succ]; rfl)) | (apply wantTg; rfl; rfl; (simp only [Nat.reduceDiv, Nat.reduceMod, get_nth, nth_zero, nth_succ]; rfl)) | (apply wantFg; rfl; rfl; (simp only [Nat.reduceDiv, Nat.reduceMod, get_nth, nth_zero, nth_succ]; rfl)) | (apply wantU; rfl; rfl; (simp only [Nat.reduceDiv, Nat.reduceMod, get_nth, nth_zero, nth_succ]; rfl))); (first | rfl | (simp only [hn0, hn1, hb1, hlR, Option.isSome_none, Bool.false_eq_true, hi1, Bool.and_false, Bool.false_and, Bool.not_true, Bool.not_false, decide_true, decide_false, Bool.or_true, Bool.true_or, not_true_eq_false, not_false_eq_true, Bool.and_true, Bool.true_and]; done)); rfl))); done)))
       | (apply V.regd; (focus ((repeat (first
       | exact RO.nil
       | (apply RO.op; rfl; (simp only [hn0, hn1, hb1, hlR, Option.isSome_none, Bool.false_eq_true, hi1, go_sem, Nat.reduceDiv, Nat.reduceMod, Nat.reduceAdd, Nat.reduceSub, Nat.reduceEqDiff, Nat.reduceLeDiff, Nat.reduceLT, Nat.reduceMul, reduceIte, Nat.reducePow, Int.reduceEq, List.toList_toArray]; (first | rfl | (apply ite_ok; (first | assumption | rfl | omega | (refine ⟨?_, ?_⟩ <;> omega)); rfl))); rfl)
       | (apply RO.opg; (first | (apply wantT; rfl; rfl; (simp only [Nat.reduceDiv, Nat.reduceMod, get_nth, nth_zero, nth_succ]; rfl)) | (apply wantF; rfl; rfl; (simp only [Nat.reduceDiv, Nat.reduceMod, get_nth, nth_zero, nth_succ]; rfl)) | (apply wantTg; rfl; rfl; (simp only [Nat.reduceDiv, Nat.reduceMod, get_nth, nth_zero, nth_succ]; rfl)) | (apply wantFg; rfl; rfl; (simp only [Nat.reduceDiv, Nat.reduceMod, get_nth, nth_zero, nth_succ]; rfl)) | (apply wantU; rfl; rfl; (simp only [Nat.reduceDiv, Nat.reduceMod, get_nth, nth_zero, nth_succ]; rfl))); (intro h; (try simp only [Bool.and_eq_true, Bool.not_eq_true', Bool.not_eq_eq_eq_not, Bool.not_true] at h); simp only [h, hn0, hn1, hb1, hlR, Option.isSome_none, Bool.false_eq_true, hi1, go_sem, Nat.reduceDiv, Nat.reduceMod, Nat.reduceAdd, Nat.reduceSub, Nat.reduceEqDiff, Nat.reduceLeDiff, Nat.reduceLT, Nat.reduceMul, reduceIte, Nat.reducePow, Int.reduceEq, List.toList_toArray]; (first | rfl | (apply ite_ok; (first | assumption | rfl | omega | (refine ⟨?_, ?_⟩ <;> omega)); rfl))); rfl)
       | (apply RO.call; exact want0 rfl; (simp only [hn0, hn1, hb1, hlR, Option.isSome_none, Bool.false_eq_true, hi1, go_sem, Nat.reduceDiv, Nat.reduceMod, Nat.reduceAdd, Nat.reduceSub, Nat.reduceEqDiff, Nat.reduceLeDiff, Nat.reduceLT, Nat.reduceMul, reduceIte, Nat.reducePow, Int.reduceEq, List.toList_toArray]; rfl); (first | (apply b2i_run <;> (first | assumption | rfl | omega | (refine ⟨?_, ?_⟩ <;> omega))) | (apply hq <;> (first | assumption | rfl | omega | (refine ⟨?_, ?_⟩ <;> omega)))); rfl)
       | (apply RO.callg; (first | (apply wantT; rfl; rfl; (simp only [Nat.reduceDiv, Nat.reduceMod, get_nth, nth_zero, nth_succ]; rfl)) | (apply wantF; rfl; rfl; (simp only [Nat.reduceDiv, Nat.reduceMod, get_nth, nth_zero, nth_succ]; rfl)) | (apply wantTg; rfl; rfl; (simp only [Nat.reduceDiv, Nat.reduceMod, get_nth, nth_zero, nth_succ]; rfl)) | (apply wantFg; rfl; rfl; (simp only [Nat.reduceDiv, Nat.reduceMod, get_nth, nth_zero, nth_succ]; rfl)) | (apply wantU; rfl; rfl; (simp only [Nat.reduceDiv, Nat.reduceMod, get_nth, nth_zero, nth_succ]; rfl))); (intro h; (try simp only [Bool.and_eq_true, Bool.not_eq_true', Bool.not_eq_eq_eq_not, Bool.not_true] at h); simp only [h, hn0, hn1, hb1, hlR, Option.isSome_none, Bool.false_eq_true, hi1, go_sem, Nat.reduceDiv, Nat.reduceMod, Nat.reduceAdd, Nat.reduceSub, Nat.reduceEqDiff, Nat.reduceLeDiff, Nat.reduceLT, Nat.reduceMul, reduceIte, Nat.reducePow, Int.reduceEq, List.toList_toArray]; rfl); (intro h; (try simp only [Bool.and_eq_true, Bool.not_eq_true', Bool.not_eq_eq_eq_not, Bool.not_true] at h); (first | (apply b2i_run <;> (first | assumption | rfl | omega | (refine ⟨?_, ?_⟩ <;> omega))) | (apply hq <;> (first | assumption | rfl | omega | (refine ⟨?_, ?_⟩ <;> omega))))); rfl)
       | (apply RO.no; apply wantNo; (first | (apply wantT; rfl; rfl; (simp only [Nat.reduceDiv, Nat.reduceMod, get_nth, nth_zero, nth_succ]; rfl)) | (apply wantF; rfl; rfl; (simp only [Nat.reduceDiv, Nat.reduceMod, get_nth, nth_zero, nth_succ]; rfl)) | (apply wantTg; rfl; rfl; (simp only [Nat.reduceDiv, Nat.reduceMod, get_nth, nth_zero, nth_succ]; rfl)) | (apply wantFg; rfl; rfl; (simp only [Nat.reduceDiv, Nat.reduceMod, get_nth, nth_zero, nth_succ]; rfl)) | (apply wantU; rfl; rfl; (simp only [Nat.reduceDiv, Nat.reduceMod, get_nth, nth_zero, nth_succ]; rfl))); (first | rfl | (simp only [hn0, hn1, hb1, hlR, Option.isSome_none, Bool.false_eq_true, hi1, Bool.and_false, Bool.false_and, Bool.not_true, Bool.not_false, decide_true, decide_false, Bool.or_true, Bool.true_or, not_true_eq_false, not_false_eq_true, Bool.and_true, Bool.true_and]; done)); rfl))); done)); (focus kernel_rfl); (focus (first | (apply okPairs_kinds; (focus ((repeat (first | exact Kinds.nil | (apply Kinds.ro; (first | exact RoT.zero | exact RoT.rd | exact RoT.all | exact RoT.rdTr _ | assumption)) | apply Kinds.any)); done)); decide +kernel) | kernel_rfl)))
       | (refine V.cond rfl (fun h => ?_) (fun h => ?_) <;> (try simp only [decide_eq_true_eq, decide_eq_false_iff_not, Bool.and_eq_true, Bool.or_eq_true, Bool.and_eq_false_iff, Bool.or_eq_false_iff, Bool.not_eq_true', Bool.not_eq_false', Bool.not_true, Bool.not_false, Classical.not_not, Int.not_lt, Int.not_le, reduceCtorEq, not_true_eq_false, not_false_eq_true, decide_true, decide_false, Int.reduceEq, Int.reduceLT, Int.reduceLE] at h) <;> (try (exfalso; omega)))
       | (refine FnQ.normal (res0 Tryz.results3) rfl ?_; (try dsimp only))
       | (refine FnQ.ret (res0 Tryz.results3) rfl ?_; (try dsimp only))
       | (refine FnQ.ret (res1 Tryz.results3) (by simp only [Nat.reduceDiv, Nat.reduceMod, get_nth, nth_zero, nth_succ]; rfl) ?_; (try dsimp only))
       | (refine FnQ.ret (res2 Tryz.results3) (by simp only [Nat.reduceDiv, Nat.reduceMod, get_nth, nth_zero, nth_succ]; rfl) ?_; (try dsimp only))
       | (refine FnQ.retB (resc Tryz.results3) (by simp only [cellR_op, hn0, hn1, hb1, hlR, Option.isSome_none, Bool.false_eq_true, hi1, go_sem, Nat.reduceDiv, Nat.reduceMod, Nat.reduceAdd, Nat.reduceSub, Nat.reduceEqDiff, Nat.reduceLeDiff, Nat.reduceLT, Nat.reduceMul, reduceIte, Nat.reducePow, Int.reduceEq, List.toList_toArray]; rfl) ?_; (try dsimp only))
       | (refine FnQ.retB (resct Tryz.results3) (by simp only [cellR_op, hn0, hn1, hb1, hlR, Option.isSome_none, Bool.false_eq_true, hi1, go_sem, Nat.reduceDiv, Nat.reduceMod, Nat.reduceAdd, Nat.reduceSub, Nat.reduceEqDiff, Nat.reduceLeDiff, Nat.reduceLT, Nat.reduceMul, reduceIte, Nat.reducePow, Int.reduceEq, List.toList_toArray]; rfl) ?_; (try dsimp only)))
      · exfalso
        simp at h
      · exact LoopS.again (120 - (i + 1)) (by rfl) (by omega) ⟨i + 1, _, Fp', Fw', _, _, rfl, rfl, by omega, by omega, hfin _, by omega, hagain⟩
    | some ev =>
      rw [he] at hE
      obtain ⟨k1, A2, rfl, hk1, hk1l, hkb, hA2, _⟩ := hE
      obtain ⟨rfl, rfl, rfl, hA⟩ := hev ev he
      have hk1n : ¬ H2.next = k1 := by omega
      obtain ⟨tr, htr2, hEq⟩ := WC.pureAny (E := EZ) (ys := []) (lo := 0) (f := 18) (args := [evA ev.kind ev.r A2 ev.text, evA ev.kind ev.r A ev.text]) (H := H2.push ⟨35, 4, 0, [[.v (.int .i64 ev.kind), .v (.int .i32 ev.r), A, .v (.string ev.text)]], none⟩) (x := .v (.bool true)) rfl (fun lo' H' h => by
        obtain ⟨n, r, H3, h1, h2⟩ := EqEvent_wc lo' H' ev.kind ev.r ev.kind ev.r A2 A ev.args ev.args ev.text ev.text (by
          rcases h with ⟨rfl, rfl⟩ | ⟨rfl, rfl, hn⟩
          · exact hA2.push _
          · rcases hA2 with hA2 | ⟨n', e', off, b, rfl, _⟩
            · exact .inl hA2
            · exact absurd hn (by simp [evA, nf])) (.inl hA) (by have := put_args w t (l.getD i 0) ev he; omega)
        exact ⟨n, r, H3, h1, by rw [h2]; simp [frzR_v]⟩)
      unfold evA at hEq
      repeat' (first
       | apply V.sq
       | apply V.bl
       | apply V.sc
       | apply V.skip
       | apply V.label
       | apply V.ret
       | apply V.exit
       | apply SeqQ.normal
       | apply SeqQ.ret
       | apply SeqQ.exit
       | apply BlockQ.normal
       | apply BlockQ.ret
       | apply BlockQ.here
       | (apply BlockQ.there; decide)
       | apply LoopS.ret
       | apply LoopS.exit
       | apply LoopF.ret
       | apply LoopF.exit
       | (apply V.reg; (focus ((repeat (first
       | exact RO.nil
       | (apply RO.op; rfl; (simp only [hn0, hn1, hb1, hkb, hk1n, Option.isSome_some, hi1, go_sem, Nat.reduceDiv, Nat.reduceMod, Nat.reduceAdd, Nat.reduceSub, Nat.reduceEqDiff, Nat.reduceLeDiff, Nat.reduceLT, Nat.reduceMul, reduceIte, Nat.reducePow, Int.reduceEq, List.toList_toArray]; (first | rfl | (apply ite_ok; (first | assumption | rfl | omega | (refine ⟨?_, ?_⟩ <;> omega)); rfl))); rfl)
       | (apply RO.opg; (first | (apply wantT; rfl; rfl; (simp only [Nat.reduceDiv, Nat.reduceMod, get_nth, nth_zero, nth_succ]; rfl)) | (apply wantF; rfl; rfl; (simp only [Nat.reduceDiv, Nat.reduceMod, get_nth, nth_zero, nth_succ]; rfl)) | (apply wantTg; rfl; rfl; (simp only [Nat.reduceDiv, Nat.reduceMod, get_nth, nth_zero, nth_succ]; rfl)) | (apply wantFg; rfl; rfl; (simp only [Nat.reduceDiv, Nat.reduceMod, get_nth, nth_zero, nth_succ]; rfl)) | (apply wantU; rfl; rfl; (simp only [Nat.reduceDiv, Nat.reduceMod, get_nth, nth_zero, nth_succ]; rfl))); (intro h; (try simp only [Bool.and_eq_true, Bool.not_eq_true', Bool.not_eq_eq_eq_not, Bool.not_true] at h); simp only [h, hn0, hn1, hb1, hkb, hk1n, Option.isSome_some, hi1, go_sem, Nat.reduceDiv, Nat.reduceMod, Nat.reduceAdd, Nat.reduceSub, Nat.reduceEqDiff, Nat.reduceLeDiff, Nat.reduceLT, Nat.reduceMul, reduceIte, Nat.reducePow, Int.reduceEq, List.toList_toArray]; (first | rfl | (apply ite_ok; (first | assumption | rfl | omega | (refine ⟨?_, ?_⟩ <;> omega)); rfl))); rfl)
       | (apply RO.call; exact want0 rfl; (simp only [hn0, hn1, hb1, hkb, hk1n, Option.isSome_some, hi1, go_sem, Nat.reduceDiv, Nat.reduceMod, Nat.reduceAdd, Nat.reduceSub, Nat.reduceEqDiff, Nat.reduceLeDiff, Nat.reduceLT, Nat.reduceMul, reduceIte, Nat.reducePow, Int.reduceEq, List.toList_toArray]; rfl); (first | (apply b2i_run <;> (first | assumption | rfl | omega | (refine ⟨?_, ?_⟩ <;> omega))) | (apply hq <;> (first | assumption | rfl | omega | (refine ⟨?_, ?_⟩ <;> omega))) | (apply hEq <;> (first | assumption | rfl | omega | (refine ⟨?_, ?_⟩ <;> omega)))); rfl)
       | (apply RO.callg; (first | (apply wantT; rfl; rfl; (simp only [Nat.reduceDiv, Nat.reduceMod, get_nth, nth_zero, nth_succ]; rfl)) | (apply wantF; rfl; rfl; (simp only [Nat.reduceDiv, Nat.reduceMod, get_nth, nth_zero, nth_succ]; rfl)) | (apply wantTg; rfl; rfl; (simp only [Nat.reduceDiv, Nat.reduceMod, get_nth, nth_zero, nth_succ]; rfl)) | (apply wantFg; rfl; rfl; (simp only [Nat.reduceDiv, Nat.reduceMod, get_nth, nth_zero, nth_succ]; rfl)) | (apply wantU; rfl; rfl; (simp only [Nat.reduceDiv, Nat.reduceMod, get_nth, nth_zero, nth_succ]; rfl))); (intro h; (try simp only [Bool.and_eq_true, Bool.not_eq_true', Bool.not_eq_eq_eq_not, Bool.not_true] at h); simp only [h, hn0, hn1, hb1, hkb, hk1n, Option.isSome_some, hi1, go_sem, Nat.reduceDiv, Nat.reduceMod, Nat.reduceAdd, Nat.reduceSub, Nat.reduceEqDiff, Nat.reduceLeDiff, Nat.reduceLT, Nat.reduceMul, reduceIte, Nat.reducePow, Int.reduceEq, List.toList_toArray]; rfl); (intro h; (try simp only [Bool.and_eq_true, Bool.not_eq_true', Bool.not_eq_eq_eq_not, Bool.not_true] at h); (first | (apply b2i_run <;> (first | assumption | rfl | omega | (refine ⟨?_, ?_⟩ <;> omega))) | (apply hq <;> (first | assumption | rfl | omega | (refine ⟨?_, ?_⟩ <;> omega))) | (apply hEq <;> (first | assumption | rfl | omega | (refine ⟨?_, ?_⟩ <;> omega))))); rfl)
       | (apply RO.no; apply wantNo; (first | (apply wantT; rfl; rfl; (simp only [Nat.reduceDiv, Nat.reduceMod, get_nth, nth_zero, nth_succ]; rfl)) | (apply wantF; rfl; rfl; (simp only [Nat.reduceDiv, Nat.reduceMod, get_nth, nth_zero, nth_succ]; rfl)) | (apply wantTg; rfl; rfl; (simp only [Nat.reduceDiv, Nat.reduceMod, get_nth, nth_zero, nth_succ]; rfl)) | (apply wantFg; rfl; rfl; (simp only [Nat.reduceDiv, Nat.reduceMod, get_nth, nth_zero, nth_succ]; rfl)) | (apply wantU; rfl; rfl; (simp only [Nat.reduceDiv, Nat.reduceMod, get_nth, nth_zero, nth_succ]; rfl))); (first | rfl | (simp only [hn0, hn1, hb1, hkb, hk1n, Option.isSome_some, hi1, Bool.and_false, Bool.false_and, Bool.not_true, Bool.not_false, decide_true, decide_false, Bool.or_true, Bool.true_or, not_true_eq_false, not_false_eq_true, Bool.and_true, Bool.true_and]; done)); rfl))); done)))
       | (apply V.regd; (focus ((repeat (first
       | exact RO.nil
       | (apply RO.op; rfl; (simp only [hn0, hn1, hb1, hkb, hk1n, Option.isSome_some, hi1, go_sem, Nat.reduceDiv, Nat.reduceMod, Nat.reduceAdd, Nat.reduceSub, Nat.reduceEqDiff, Nat.reduceLeDiff, Nat.reduceLT, Nat.reduceMul, reduceIte, Nat.reducePow, Int.reduceEq, List.toList_toArray]; (first | rfl | (apply ite_ok; (first | assumption | rfl | omega | (refine ⟨?_, ?_⟩ <;> omega)); rfl))); rfl)
       | (apply RO.opg; (first | (apply wantT; rfl; rfl; (simp only [Nat.reduceDiv, Nat.reduceMod, get_nth, nth_zero, nth_succ]; rfl)) | (apply wantF; rfl; rfl; (simp only [Nat.reduceDiv, Nat.reduceMod, get_nth, nth_zero, nth_succ]; rfl)) | (apply wantTg; rfl; rfl; (simp only [Nat.reduceDiv, Nat.reduceMod, get_nth, nth_zero, nth_succ]; rfl)) | (apply wantFg; rfl; rfl; (simp only [Nat.reduceDiv, Nat.reduceMod, get_nth, nth_zero, nth_succ]; rfl)) | (apply wantU; rfl; rfl; (simp only [Nat.reduceDiv, Nat.reduceMod, get_nth, nth_zero, nth_succ]; rfl))); (intro h; (try simp only [Bool.and_eq_true, Bool.not_eq_true', Bool.not_eq_eq_eq_not, Bool.not_true] at h); simp only [h, hn0, hn1, hb1, hkb, hk1n, Option.isSome_some, hi1, go_sem, Nat.reduceDiv, Nat.reduceMod, Nat.reduceAdd, Nat.reduceSub, Nat.reduceEqDiff, Nat.reduceLeDiff, Nat.reduceLT, Nat.reduceMul, reduceIte, Nat.reducePow, Int.reduceEq, List.toList_toArray]; (first | rfl | (apply ite_ok; (first | assumption | rfl | omega | (refine ⟨?_, ?_⟩ <;> omega)); rfl))); rfl)
       | (apply RO.call; exact want0 rfl; (simp only [hn0, hn1, hb1, hkb, hk1n, Option.isSome_some, hi1, go_sem, Nat.reduceDiv, Nat.reduceMod, Nat.reduceAdd, Nat.reduceSub, Nat.reduceEqDiff, Nat.reduceLeDiff, Nat.reduceLT, Nat.reduceMul, reduceIte, Nat.reducePow, Int.reduceEq, List.toList_toArray]; rfl); (first | (apply b2i_run <;> (first | assumption | rfl | omega | (refine ⟨?_, ?_⟩ <;> omega))) | (apply hq <;> (first | assumption | rfl | omega | (refine ⟨?_, ?_⟩ <;> omega))) | (apply hEq <;> (first | assumption | rfl | omega | (refine ⟨?_, ?_⟩ <;> omega)))); rfl)
       | (apply RO.callg; (first | (apply wantT; rfl; rfl; (simp only [Nat.reduceDiv, Nat.reduceMod, get_nth, nth_zero, nth_succ]; rfl)) | (apply wantF; rfl; rfl; (simp only [Nat.reduceDiv, Nat.reduceMod, get_nth, nth_zero, nth_succ]; rfl)) | (apply wantTg; rfl; rfl; (simp only [Nat.reduceDiv, Nat.reduceMod, get_nth, nth_zero, nth_succ]; rfl)) | (apply wantFg; rfl; rfl; (simp only [Nat.reduceDiv, Nat.reduceMod, get_nth, nth_zero, nth_succ]; rfl)) | (apply wantU; rfl; rfl; (simp only [Nat.reduceDiv, Nat.reduceMod, get_nth, nth_zero, nth_succ]; rfl))); (intro h; (try simp only [Bool.and_eq_true, Bool.not_eq_true', Bool.not_eq_eq_eq_not, Bool.not_true] at h); simp only [h, hn0, hn1, hb1, hkb, hk1n, Option.isSome_some, hi1, go_sem, Nat.reduceDiv, Nat.reduceMod, Nat.reduceAdd, Nat.reduceSub, Nat.reduceEqDiff, Nat.reduceLeDiff, Nat.reduceLT, Nat.reduceMul, reduceIte, Nat.reducePow, Int.reduceEq, List.toList_toArray]; rfl); (intro h; (try simp only [Bool.and_eq_true, Bool.not_eq_true', Bool.not_eq_eq_eq_not, Bool.not_true] at h); (first | (apply b2i_run <;> (first | assumption | rfl | omega | (refine ⟨?_, ?_⟩ <;> omega))) | (apply hq <;> (first | assumption | rfl | omega | (refine ⟨?_, ?_⟩ <;> omega))) | (apply hEq <;> (first | assumption | rfl | omega | (refine ⟨?_, ?_⟩ <;> omega))))); rfl)
       | (apply RO.no; apply wantNo; (first | (apply wantT; rfl; rfl; (simp only [Nat.reduceDiv, Nat.reduceMod, get_nth, nth_zero, nth_succ]; rfl)) | (apply wantF; rfl; rfl; (simp only [Nat.reduceDiv, Nat.reduceMod, get_nth, nth_zero, nth_succ]; rfl)) | (apply wantTg; rfl; rfl; (simp only [Nat.reduceDiv, Nat.reduceMod, get_nth, nth_zero, nth_succ]; rfl)) | (apply wantFg; rfl; rfl; (simp only [Nat.reduceDiv, Nat.reduceMod, get_nth, nth_zero, nth_succ]; rfl)) | (apply wantU; rfl; rfl; (simp only [Nat.reduceDiv, Nat.reduceMod, get_nth, nth_zero, nth_succ]; rfl))); (first | rfl | (simp only [hn0, hn1, hb1, hkb, hk1n, Option.isSome_some, hi1, Bool.and_false, Bool.false_and, Bool.not_true, Bool.not_false, decide_true, decide_false, Bool.or_true, Bool.true_or, not_true_eq_false, not_false_eq_true, Bool.and_true, Bool.true_and]; done)); rfl))); done)); (focus kernel_rfl); (focus (first | (apply okPairs_kinds; (focus ((repeat (first | exact Kinds.nil | (apply Kinds.ro; (first | exact RoT.zero | exact RoT.rd | exact RoT.all | exact RoT.rdTr _ | assumption)) | apply Kinds.any)); done)); decide +kernel) | kernel_rfl)))
       | (refine V.cond rfl (fun h => ?_) (fun h => ?_) <;> (try simp only [decide_eq_true_eq, decide_eq_false_iff_not, Bool.and_eq_true, Bool.or_eq_true, Bool.and_eq_false_iff, Bool.or_eq_false_iff, Bool.not_eq_true', Bool.not_eq_false', Bool.not_true, Bool.not_false, Classical.not_not, Int.not_lt, Int.not_le, reduceCtorEq, not_true_eq_false, not_false_eq_true, decide_true, decide_false, Int.reduceEq, Int.reduceLT, Int.reduceLE] at h) <;> (try (exfalso; omega)))
       | (refine FnQ.normal (res0 Tryz.results3) rfl ?_; (try dsimp only))
       | (refine FnQ.ret (res0 Tryz.results3) rfl ?_; (try dsimp only))
       | (refine FnQ.ret (res1 Tryz.results3) (by simp only [Nat.reduceDiv, Nat.reduceMod, get_nth, nth_zero, nth_succ]; rfl) ?_; (try dsimp only))
       | (refine FnQ.ret (res2 Tryz.results3) (by simp only [Nat.reduceDiv, Nat.reduceMod, get_nth, nth_zero, nth_succ]; rfl) ?_; (try dsimp only))
       | (refine FnQ.retB (resc Tryz.results3) (by simp only [cellR_op, hn0, hn1, hb1, hkb, hk1n, Option.isSome_some, hi1, go_sem, Nat.reduceDiv, Nat.reduceMod, Nat.reduceAdd, Nat.reduceSub, Nat.reduceEqDiff, Nat.reduceLeDiff, Nat.reduceLT, Nat.reduceMul, reduceIte, Nat.reducePow, Int.reduceEq, List.toList_toArray]; rfl) ?_; (try dsimp only))
       | (refine FnQ.retB (resct Tryz.results3) (by simp only [cellR_op, hn0, hn1, hb1, hkb, hk1n, Option.isSome_some, hi1, go_sem, Nat.reduceDiv, Nat.reduceMod, Nat.reduceAdd, Nat.reduceSub, Nat.reduceEqDiff, Nat.reduceLeDiff, Nat.reduceLT, Nat.reduceMul, reduceIte, Nat.reducePow, Int.reduceEq, List.toList_toArray]; rfl) ?_; (try dsimp only)))
      · exfalso
        simp at h
      · exact LoopS.again (120 - (i + 1)) (by rfl) (by omega) ⟨i + 1, _, Fp', Fw', _, _, rfl, rfl, by omega, by omega, hfin _, by omega, hagain⟩
end
end Go.Am
