/- begun, b2i, Quiet; one parser. -/
import Derived.Test.YtoeemmlfcnokiaaAEsc2
set_option linter.all false
set_option linter.deprecated false
namespace Go.Am
open Go.Proofs
set_option maxRecDepth 8000
set_option maxHeartbeats 1000000
section
variable {ys : List (Nat × LRec)} {lo : Nat} {H : AHeap} {F : Nat → Prop} {n : Nat} {w : Int} {t : List Int}
theorem begun_call : CallR EA ys lo 10 [] H (.v (.bool true)) H ⟨0, 0, 0⟩ := by
  obtain ⟨H', h⟩ := isT_ok begun_run
  exact WC.pure' (E := EA) rfl rfl ⟨_, _, _, h, rfl⟩ _ _ _
theorem b2i_run (b : Bool) : CallR EA ys lo 21 [.v (.bool b)] H (.v (.int .i64 (if b then 1 else 0))) H ⟨0, 0, 0⟩ := by
  refine WC.pure' rfl rfl ?_ _ _ _
  refine WC.enter Try.func21 rfl (Nat.le_of_ble_eq_true rfl) (by simp only [Slots.of, Try.ntmps21, Nat.reduceAdd, Nat.reduceDiv, rows8P, row8]; rfl) ?_
  repeat' (first
   | apply V.sq
   | apply V.bl
   | apply V.sc
   | apply V.skip
   | apply V.label
   | apply V.ret
   | apply V.exit
   | apply SeqQ.normal
   | apply SeqQ.ret
   | apply SeqQ.exit
   | apply BlockQ.normal
   | apply BlockQ.ret
   | apply BlockQ.here
   | (apply BlockQ.there; decide)
   | apply LoopS.ret
   | apply LoopS.exit
   | apply LoopF.ret
   | apply LoopF.exit
   | (apply V.reg; (focus ((repeat (first
   | exact RO.nil
   | (apply RO.op; rfl; (simp only [go_sem, Nat.reduceDiv, Nat.reduceMod, Nat.reduceAdd, Nat.reduceSub, Nat.reduceEqDiff, Nat.reduceLeDiff, Nat.reduceLT, Nat.reduceMul, reduceIte, Nat.reducePow, Int.reduceEq, List.toList_toArray]; (first | rfl | (apply ite_ok; (first | assumption | rfl | omega | (refine ⟨?_, ?_⟩ <;> omega)); rfl))); rfl)
   | (apply RO.opg; (first | (apply wantT; rfl; rfl; (simp only [Nat.reduceDiv, Nat.reduceMod, get_nth, nth_zero, nth_succ]; rfl)) | (apply wantF; rfl; rfl; (simp only [Nat.reduceDiv, Nat.reduceMod, get_nth, nth_zero, nth_succ]; rfl)) | (apply wantTg; rfl; rfl; (simp only [Nat.reduceDiv, Nat.reduceMod, get_nth, nth_zero, nth_succ]; rfl)) | (apply wantFg; rfl; rfl; (simp only [Nat.reduceDiv, Nat.reduceMod, get_nth, nth_zero, nth_succ]; rfl)) | (apply wantU; rfl; rfl; (simp only [Nat.reduceDiv, Nat.reduceMod, get_nth, nth_zero, nth_succ]; rfl))); (intro h; (try simp only [Bool.and_eq_true, Bool.not_eq_true', Bool.not_eq_eq_eq_not, Bool.not_true] at h); simp only [h, go_sem, Nat.reduceDiv, Nat.reduceMod, Nat.reduceAdd, Nat.reduceSub, Nat.reduceEqDiff, Nat.reduceLeDiff, Nat.reduceLT, Nat.reduceMul, reduceIte, Nat.reducePow, Int.reduceEq, List.toList_toArray]; (first | rfl | (apply ite_ok; (first | assumption | rfl | omega | (refine ⟨?_, ?_⟩ <;> omega)); rfl))); rfl)
   | (apply RO.call; exact want0 rfl; (simp only [go_sem, Nat.reduceDiv, Nat.reduceMod, Nat.reduceAdd, Nat.reduceSub, Nat.reduceEqDiff, Nat.reduceLeDiff, Nat.reduceLT, Nat.reduceMul, reduceIte, Nat.reducePow, Int.reduceEq, List.toList_toArray]; rfl); fail; rfl)
   | (apply RO.callg; (first | (apply wantT; rfl; rfl; (simp only [Nat.reduceDiv, Nat.reduceMod, get_nth, nth_zero, nth_succ]; rfl)) | (apply wantF; rfl; rfl; (simp only [Nat.reduceDiv, Nat.reduceMod, get_nth, nth_zero, nth_succ]; rfl)) | (apply wantTg; rfl; rfl; (simp only [Nat.reduceDiv, Nat.reduceMod, get_nth, nth_zero, nth_succ]; rfl)) | (apply wantFg; rfl; rfl; (simp only [Nat.reduceDiv, Nat.reduceMod, get_nth, nth_zero, nth_succ]; rfl)) | (apply wantU; rfl; rfl; (simp only [Nat.reduceDiv, Nat.reduceMod, get_nth, nth_zero, nth_succ]; rfl))); (intro h; (try simp only [Bool.and_eq_true, Bool.not_eq_true', Bool.not_eq_eq_eq_not, Bool.not_true] at h); simp only [h, go_sem, Nat.reduceDiv, Nat.reduceMod, Nat.reduceAdd, Nat.reduceSub, Nat.reduceEqDiff, Nat.reduceLeDiff, Nat.reduceLT, Nat.reduceMul, reduceIte, Nat.reducePow, Int.reduceEq, List.toList_toArray]; rfl); (intro h; (try simp only [Bool.and_eq_true, Bool.not_eq_true', Bool.not_eq_eq_eq_not, Bool.not_true] at h); fail); rfl)
   | (apply RO.no; apply wantNo; (first | (apply wantT; rfl; rfl; (simp only [Nat.reduceDiv, Nat.reduceMod, get_nth, nth_zero, nth_succ]; rfl)) | (apply wantF; rfl; rfl; (simp only [Nat.reduceDiv, Nat.reduceMod, get_nth, nth_zero, nth_succ]; rfl)) | (apply wantTg; rfl; rfl; (simp only [Nat.reduceDiv, Nat.reduceMod, get_nth, nth_zero, nth_succ]; rfl)) | (apply wantFg; rfl; rfl; (simp only [Nat.reduceDiv, Nat.reduceMod, get_nth, nth_zero, nth_succ]; rfl)) | (apply wantU; rfl; rfl; (simp only [Nat.reduceDiv, Nat.reduceMod, get_nth, nth_zero, nth_succ]; rfl))); (first | rfl | (simp only [Bool.and_false, Bool.false_and, Bool.not_true, Bool.not_false, decide_true, decide_false, Bool.or_true, Bool.true_or, not_true_eq_false, not_false_eq_true, Bool.and_true, Bool.true_and]; done)); rfl))); done)))
   | (apply V.regd; (focus ((repeat (first
   | exact RO.nil
   | (apply RO.op; rfl; (simp only [go_sem, Nat.reduceDiv, Nat.reduceMod, Nat.reduceAdd, Nat.reduceSub, Nat.reduceEqDiff, Nat.reduceLeDiff, Nat.reduceLT, Nat.reduceMul, reduceIte, Nat.reducePow, Int.reduceEq, List.toList_toArray]; (first | rfl | (apply ite_ok; (first | assumption | rfl | omega | (refine ⟨?_, ?_⟩ <;> omega)); rfl))); rfl)
   | (apply RO.opg; (first | (apply wantT; rfl; rfl; (simp only [Nat.reduceDiv, Nat.reduceMod, get_nth, nth_zero, nth_succ]; rfl)) | (apply wantF; rfl; rfl; (simp only [Nat.reduceDiv, Nat.reduceMod, get_nth, nth_zero, nth_succ]; rfl)) | (apply wantTg; rfl; rfl; (simp only [Nat.reduceDiv, Nat.reduceMod, get_nth, nth_zero, nth_succ]; rfl)) | (apply wantFg; rfl; rfl; (simp only [Nat.reduceDiv, Nat.reduceMod, get_nth, nth_zero, nth_succ]; rfl)) | (apply wantU; rfl; rfl; (simp only [Nat.reduceDiv, Nat.reduceMod, get_nth, nth_zero, nth_succ]; rfl))); (intro h; (try simp only [Bool.and_eq_true, Bool.not_eq_true', Bool.not_eq_eq_eq_not, Bool.not_true] at h); simp only [h, go_sem, Nat.reduceDiv, Nat.reduceMod, Nat.reduceAdd, Nat.reduceSub, Nat.reduceEqDiff, Nat.reduceLeDiff, Nat.reduceLT, Nat.reduceMul, reduceIte, Nat.reducePow, Int.reduceEq, List.toList_toArray]; (first | rfl | (apply ite_ok; (first | assumption | rfl | omega | (refine ⟨?_, ?_⟩ <;> omega)); rfl))); rfl)
   | (apply RO.call; exact want0 rfl; (simp only [go_sem, Nat.reduceDiv, Nat.reduceMod, Nat.reduceAdd, Nat.reduceSub, Nat.reduceEqDiff, Nat.reduceLeDiff, Nat.reduceLT, Nat.reduceMul, reduceIte, Nat.reducePow, Int.reduceEq, List.toList_toArray]; rfl); fail; rfl)
   | (apply RO.callg; (first | (apply wantT; rfl; rfl; (simp only [Nat.reduceDiv, Nat.reduceMod, get_nth, nth_zero, nth_succ]; rfl)) | (apply wantF; rfl; rfl; (simp only [Nat.reduceDiv, Nat.reduceMod, get_nth, nth_zero, nth_succ]; rfl)) | (apply wantTg; rfl; rfl; (simp only [Nat.reduceDiv, Nat.reduceMod, get_nth, nth_zero, nth_succ]; rfl)) | (apply wantFg; rfl; rfl; (simp only [Nat.reduceDiv, Nat.reduceMod, get_nth, nth_zero, nth_succ]; rfl)) | (apply wantU; rfl; rfl; (simp only [Nat.reduceDiv, Nat.reduceMod, get_nth, nth_zero, nth_succ]; rfl))); (intro h; (try simp only [Bool.and_eq_true, Bool.not_eq_true', Bool.not_eq_eq_eq_not, Bool.not_true] at h); simp only [h, go_sem, Nat.reduceDiv, Nat.reduceMod, Nat.reduceAdd, Nat.reduceSub, Nat.reduceEqDiff, Nat.reduceLeDiff, Nat.reduceLT, Nat.reduceMul, reduceIte, Nat.reducePow, Int.reduceEq, List.toList_toArray]; rfl); (intro h; (try simp only [Bool.and_eq_true, Bool.not_eq_true', Bool.not_eq_eq_eq_not, Bool.not_true] at h); fail); rfl)
   | (apply RO.no; apply wantNo; (first | (apply wantT; rfl; rfl; (simp only [Nat.reduceDiv, Nat.reduceMod, get_nth, nth_zero, nth_succ]; rfl)) | (apply wantF; rfl; rfl; (simp only [Nat.reduceDiv, Nat.reduceMod, get_nth, nth_zero, nth_succ]; rfl)) | (apply wantTg; rfl; rfl; (simp only [Nat.reduceDiv, Nat.reduceMod, get_nth, nth_zero, nth_succ]; rfl)) | (apply wantFg; rfl; rfl; (simp only [Nat.reduceDiv, Nat.reduceMod, get_nth, nth_zero, nth_succ]; rfl)) | (apply wantU; rfl; rfl; (simp only [Nat.reduceDiv, Nat.reduceMod, get_nth, nth_zero, nth_succ]; rfl))); (first | rfl | (simp only [Bool.and_false, Bool.false_and, Bool.not_true, Bool.not_false, decide_true, decide_false, Bool.or_true, Bool.true_or, not_true_eq_false, not_false_eq_true, Bool.and_true, Bool.true_and]; done)); rfl))); done)); (focus kernel_rfl); (focus (first | (apply okPairs_kinds; (focus ((repeat (first | exact Kinds.nil | (apply Kinds.ro; (first | exact RoT.zero | exact RoT.rd | exact RoT.all | exact RoT.rdTr _ | assumption)) | apply Kinds.any)); done)); decide +kernel) | kernel_rfl)))
   | (refine V.cond rfl (fun h => ?_) (fun h => ?_) <;> (try simp only [decide_eq_true_eq, decide_eq_false_iff_not, Bool.and_eq_true, Bool.or_eq_true, Bool.and_eq_false_iff, Bool.or_eq_false_iff, Bool.not_eq_true', Bool.not_eq_false', Bool.not_true, Bool.not_false, Classical.not_not, Int.not_lt, Int.not_le, reduceCtorEq, not_true_eq_false, not_false_eq_true, decide_true, decide_false, Int.reduceEq, Int.reduceLT, Int.reduceLE] at h) <;> (try (exfalso; omega)))
   | (refine FnQ.normal (res0 Try.results21) rfl ?_; (try dsimp only))
   | (refine FnQ.ret (res0 Try.results21) rfl ?_; (try dsimp only))
   | (refine FnQ.ret (res1 Try.results21) (by simp only [Nat.reduceDiv, Nat.reduceMod, get_nth, nth_zero, nth_succ]; rfl) ?_; (try dsimp only))
   | (refine FnQ.ret (res2 Try.results21) (by simp only [Nat.reduceDiv, Nat.reduceMod, get_nth, nth_zero, nth_succ]; rfl) ?_; (try dsimp only))
   | (refine FnQ.retB (resc Try.results21) (by simp only [cellR_op, go_sem, Nat.reduceDiv, Nat.reduceMod, Nat.reduceAdd, Nat.reduceSub, Nat.reduceEqDiff, Nat.reduceLeDiff, Nat.reduceLT, Nat.reduceMul, reduceIte, Nat.reducePow, Int.reduceEq, List.toList_toArray]; rfl) ?_; (try dsimp only))
   | (refine FnQ.retB (resct Try.results21) (by simp only [cellR_op, go_sem, Nat.reduceDiv, Nat.reduceMod, Nat.reduceAdd, Nat.reduceSub, Nat.reduceEqDiff, Nat.reduceLeDiff, Nat.reduceLT, Nat.reduceMul, reduceIte, Nat.reducePow, Int.reduceEq, List.toList_toArray]; rfl) ?_; (try dsimp only)))
  · subst h; rfl
  · subst h; rfl
theorem Quiet_run {A X : AV} {any sp : Bool} (hP : PP H F n w t A any sp X) : CallR EA ys lo 14 [.op n 0 0 0] H (.v (.bool (decide (w = 0)))) H ⟨0, 0, 1⟩ := by
  have hb := hP.blk
  unfold pBlk at hb
  obtain ⟨x, hx, hc⟩ := WC.pureH (E := EA) (ys := ys) (lo := lo) (f := 14) (args := [.op n 0 0 0]) (H := H) (K := fun x => x = .v (.bool (decide (w = 0)))) rfl rfl (by
    refine WC.enter Try.func14 rfl (Nat.le_of_ble_eq_true rfl) (by simp only [Slots.of, Try.ntmps14, Nat.reduceAdd, Nat.reduceDiv, rows8P, row8]; rfl) ?_
    repeat' (first
     | apply V.sq
     | apply V.bl
     | apply V.sc
     | apply V.skip
     | apply V.label
     | apply V.ret
     | apply V.exit
     | apply SeqQ.normal
     | apply SeqQ.ret
     | apply SeqQ.exit
     | apply BlockQ.normal
     | apply BlockQ.ret
     | apply BlockQ.here
     | (apply BlockQ.there; decide)
     | apply LoopS.ret
     | apply LoopS.exit
     | apply LoopF.ret
     | apply LoopF.exit
     | (apply V.reg; (focus ((repeat (first
     | exact RO.nil
     | (apply RO.op; rfl; (simp only [hb, go_sem, Nat.reduceDiv, Nat.reduceMod, Nat.reduceAdd, Nat.reduceSub, Nat.reduceEqDiff, Nat.reduceLeDiff, Nat.reduceLT, Nat.reduceMul, reduceIte, Nat.reducePow, Int.reduceEq, List.toList_toArray]; (first | rfl | (apply ite_ok; (first | assumption | rfl | omega | (refine ⟨?_, ?_⟩ <;> omega)); rfl))); rfl)
     | (apply RO.opg; (first | (apply wantT; rfl; rfl; (simp only [Nat.reduceDiv, Nat.reduceMod, get_nth, nth_zero, nth_succ]; rfl)) | (apply wantF; rfl; rfl; (simp only [Nat.reduceDiv, Nat.reduceMod, get_nth, nth_zero, nth_succ]; rfl)) | (apply wantTg; rfl; rfl; (simp only [Nat.reduceDiv, Nat.reduceMod, get_nth, nth_zero, nth_succ]; rfl)) | (apply wantFg; rfl; rfl; (simp only [Nat.reduceDiv, Nat.reduceMod, get_nth, nth_zero, nth_succ]; rfl)) | (apply wantU; rfl; rfl; (simp only [Nat.reduceDiv, Nat.reduceMod, get_nth, nth_zero, nth_succ]; rfl))); (intro h; (try simp only [Bool.and_eq_true, Bool.not_eq_true', Bool.not_eq_eq_eq_not, Bool.not_true] at h); simp only [h, hb, go_sem, Nat.reduceDiv, Nat.reduceMod, Nat.reduceAdd, Nat.reduceSub, Nat.reduceEqDiff, Nat.reduceLeDiff, Nat.reduceLT, Nat.reduceMul, reduceIte, Nat.reducePow, Int.reduceEq, List.toList_toArray]; (first | rfl | (apply ite_ok; (first | assumption | rfl | omega | (refine ⟨?_, ?_⟩ <;> omega)); rfl))); rfl)
     | (apply RO.call; exact want0 rfl; (simp only [hb, go_sem, Nat.reduceDiv, Nat.reduceMod, Nat.reduceAdd, Nat.reduceSub, Nat.reduceEqDiff, Nat.reduceLeDiff, Nat.reduceLT, Nat.reduceMul, reduceIte, Nat.reducePow, Int.reduceEq, List.toList_toArray]; rfl); fail; rfl)
     | (apply RO.callg; (first | (apply wantT; rfl; rfl; (simp only [Nat.reduceDiv, Nat.reduceMod, get_nth, nth_zero, nth_succ]; rfl)) | (apply wantF; rfl; rfl; (simp only [Nat.reduceDiv, Nat.reduceMod, get_nth, nth_zero, nth_succ]; rfl)) | (apply wantTg; rfl; rfl; (simp only [Nat.reduceDiv, Nat.reduceMod, get_nth, nth_zero, nth_succ]; rfl)) | (apply wantFg; rfl; rfl; (simp only [Nat.reduceDiv, Nat.reduceMod, get_nth, nth_zero, nth_succ]; rfl)) | (apply wantU; rfl; rfl; (simp only [Nat.reduceDiv, Nat.reduceMod, get_nth, nth_zero, nth_succ]; rfl))); (intro h; (try simp only [Bool.and_eq_true, Bool.not_eq_true', Bool.not_eq_eq_eq_not, Bool.not_true] at h); simp only [h, hb, go_sem, Nat.reduceDiv, Nat.reduceMod, Nat.reduceAdd, Nat.reduceSub, Nat.reduceEqDiff, Nat.reduceLeDiff, Nat.reduceLT, Nat.reduceMul, reduceIte, Nat.reducePow, Int.reduceEq, List.toList_toArray]; rfl); (intro h; (try simp only [Bool.and_eq_true, Bool.not_eq_true', Bool.not_eq_eq_eq_not, Bool.not_true] at h); fail); rfl)
     | (apply RO.no; apply wantNo; (first | (apply wantT; rfl; rfl; (simp only [Nat.reduceDiv, Nat.reduceMod, get_nth, nth_zero, nth_succ]; rfl)) | (apply wantF; rfl; rfl; (simp only [Nat.reduceDiv, Nat.reduceMod, get_nth, nth_zero, nth_succ]; rfl)) | (apply wantTg; rfl; rfl; (simp only [Nat.reduceDiv, Nat.reduceMod, get_nth, nth_zero, nth_succ]; rfl)) | (apply wantFg; rfl; rfl; (simp only [Nat.reduceDiv, Nat.reduceMod, get_nth, nth_zero, nth_succ]; rfl)) | (apply wantU; rfl; rfl; (simp only [Nat.reduceDiv, Nat.reduceMod, get_nth, nth_zero, nth_succ]; rfl))); (first | rfl | (simp only [hb, Bool.and_false, Bool.false_and, Bool.not_true, Bool.not_false, decide_true, decide_false, Bool.or_true, Bool.true_or, not_true_eq_false, not_false_eq_true, Bool.and_true, Bool.true_and]; done)); rfl))); done)))
     | (apply V.regd; (focus ((repeat (first
     | exact RO.nil
     | (apply RO.op; rfl; (simp only [hb, go_sem, Nat.reduceDiv, Nat.reduceMod, Nat.reduceAdd, Nat.reduceSub, Nat.reduceEqDiff, Nat.reduceLeDiff, Nat.reduceLT, Nat.reduceMul, reduceIte, Nat.reducePow, Int.reduceEq, List.toList_toArray]; (first | rfl | (apply ite_ok; (first | assumption | rfl | omega | (refine ⟨?_, ?_⟩ <;> omega)); rfl))); rfl)
     | (apply RO.opg; (first | (apply wantT; rfl; rfl; (simp only [Nat.reduceDiv, Nat.reduceMod, get_nth, nth_zero, nth_succ]; rfl)) | (apply wantF; rfl; rfl; (simp only [Nat.reduceDiv, Nat.reduceMod, get_nth, nth_zero, nth_succ]; rfl)) | (apply wantTg; rfl; rfl; (simp only [Nat.reduceDiv, Nat.reduceMod, get_nth, nth_zero, nth_succ]; rfl)) | (apply wantFg; rfl; rfl; (simp only [Nat.reduceDiv, Nat.reduceMod, get_nth, nth_zero, nth_succ]; rfl)) | (apply wantU; rfl; rfl; (simp only [Nat.reduceDiv, Nat.reduceMod, get_nth, nth_zero, nth_succ]; rfl))); (intro h; (try simp only [Bool.and_eq_true, Bool.not_eq_true', Bool.not_eq_eq_eq_not, Bool.not_true] at h); simp only [h, hb, go_sem, Nat.reduceDiv, Nat.reduceMod, Nat.reduceAdd, Nat.reduceSub, Nat.reduceEqDiff, Nat.reduceLeDiff, Nat.reduceLT, Nat.reduceMul, reduceIte, Nat.reducePow, Int.reduceEq, List.toList_toArray]; (first | rfl | (apply ite_ok; (first | assumption | rfl | omega | (refine ⟨?_, ?_⟩ <;> omega)); rfl))); rfl)
     | (apply RO.call; exact want0 rfl; (simp only [hb, go_sem, Nat.reduceDiv, Nat.reduceMod, Nat.reduceAdd, Nat.reduceSub, Nat.reduceEqDiff, Nat.reduceLeDiff, Nat.reduceLT, Nat.reduceMul, reduceIte, Nat.reducePow, Int.reduceEq, List.toList_toArray]; rfl); fail; rfl)
     | (apply RO.callg; (first | (apply wantT; rfl; rfl; (simp only [Nat.reduceDiv, Nat.reduceMod, get_nth, nth_zero, nth_succ]; rfl)) | (apply wantF; rfl; rfl; (simp only [Nat.reduceDiv, Nat.reduceMod, get_nth, nth_zero, nth_succ]; rfl)) | (apply wantTg; rfl; rfl; (simp only [Nat.reduceDiv, Nat.reduceMod, get_nth, nth_zero, nth_succ]; rfl)) | (apply wantFg; rfl; rfl; (simp only [Nat.reduceDiv, Nat.reduceMod, get_nth, nth_zero, nth_succ]; rfl)) | (apply wantU; rfl; rfl; (simp only [Nat.reduceDiv, Nat.reduceMod, get_nth, nth_zero, nth_succ]; rfl))); (intro h; (try simp only [Bool.and_eq_true, Bool.not_eq_true', Bool.not_eq_eq_eq_not, Bool.not_true] at h); simp only [h, hb, go_sem, Nat.reduceDiv, Nat.reduceMod, Nat.reduceAdd, Nat.reduceSub, Nat.reduceEqDiff, Nat.reduceLeDiff, Nat.reduceLT, Nat.reduceMul, reduceIte, Nat.reducePow, Int.reduceEq, List.toList_toArray]; rfl); (intro h; (try simp only [Bool.and_eq_true, Bool.not_eq_true', Bool.not_eq_eq_eq_not, Bool.not_true] at h); fail); rfl)
     | (apply RO.no; apply wantNo; (first | (apply wantT; rfl; rfl; (simp only [Nat.reduceDiv, Nat.reduceMod, get_nth, nth_zero, nth_succ]; rfl)) | (apply wantF; rfl; rfl; (simp only [Nat.reduceDiv, Nat.reduceMod, get_nth, nth_zero, nth_succ]; rfl)) | (apply wantTg; rfl; rfl; (simp only [Nat.reduceDiv, Nat.reduceMod, get_nth, nth_zero, nth_succ]; rfl)) | (apply wantFg; rfl; rfl; (simp only [Nat.reduceDiv, Nat.reduceMod, get_nth, nth_zero, nth_succ]; rfl)) | (apply wantU; rfl; rfl; (simp only [Nat.reduceDiv, Nat.reduceMod, get_nth, nth_zero, nth_succ]; rfl))); (first | rfl | (simp only [hb, Bool.and_false, Bool.false_and, Bool.not_true, Bool.not_false, decide_true, decide_false, Bool.or_true, Bool.true_or, not_true_eq_false, not_false_eq_true, Bool.and_true, Bool.true_and]; done)); rfl))); done)); (focus kernel_rfl); (focus (first | (apply okPairs_kinds; (focus ((repeat (first | exact Kinds.nil | (apply Kinds.ro; (first | exact RoT.zero | exact RoT.rd | exact RoT.all | exact RoT.rdTr _ | assumption)) | apply Kinds.any)); done)); decide +kernel) | kernel_rfl)))
     | (refine V.cond rfl (fun h => ?_) (fun h => ?_) <;> (try simp only [decide_eq_true_eq, decide_eq_false_iff_not, Bool.and_eq_true, Bool.or_eq_true, Bool.and_eq_false_iff, Bool.or_eq_false_iff, Bool.not_eq_true', Bool.not_eq_false', Bool.not_true, Bool.not_false, Classical.not_not, Int.not_lt, Int.not_le, reduceCtorEq, not_true_eq_false, not_false_eq_true, decide_true, decide_false, Int.reduceEq, Int.reduceLT, Int.reduceLE] at h) <;> (try (exfalso; omega)))
     | (refine FnQ.normal (res0 Try.results14) rfl ?_; (try dsimp only))
     | (refine FnQ.ret (res0 Try.results14) rfl ?_; (try dsimp only))
     | (refine FnQ.ret (res1 Try.results14) (by simp only [Nat.reduceDiv, Nat.reduceMod, get_nth, nth_zero, nth_succ]; rfl) ?_; (try dsimp only))
     | (refine FnQ.ret (res2 Try.results14) (by simp only [Nat.reduceDiv, Nat.reduceMod, get_nth, nth_zero, nth_succ]; rfl) ?_; (try dsimp only))
     | (refine FnQ.retB (resc Try.results14) (by simp only [cellR_op, hb, go_sem, Nat.reduceDiv, Nat.reduceMod, Nat.reduceAdd, Nat.reduceSub, Nat.reduceEqDiff, Nat.reduceLeDiff, Nat.reduceLT, Nat.reduceMul, reduceIte, Nat.reducePow, Int.reduceEq, List.toList_toArray]; rfl) ?_; (try dsimp only))
     | (refine FnQ.retB (resct Try.results14) (by simp only [cellR_op, hb, go_sem, Nat.reduceDiv, Nat.reduceMod, Nat.reduceAdd, Nat.reduceSub, Nat.reduceEqDiff, Nat.reduceLeDiff, Nat.reduceLT, Nat.reduceMul, reduceIte, Nat.reducePow, Int.reduceEq, List.toList_toArray]; rfl) ?_; (try dsimp only)))
    rfl)
  subst hx
  exact hc
/-- A parser and what it owns. -/
structure One (H : AHeap) (Fp : Nat → Prop) (n : Nat) (w : Int) (t : List Int) : Prop where
  p : ∃ A any sp X, PP H Fp n w t A any sp X
  fp : ∀ k, Fp k → k < H.next
theorem One.step {Fp : Nat → Prop} (hB : One H Fp n w t) (r : Int) (hr : -2147483648 ≤ r ∧ r ≤ 2147483647) (ht : t.length < 2 ^ 20) :
    ∃ R H1 Fp', CallR EA ys 0 12 [.op n 0 0 0, .v (.int .i32 r)] H R H1 ⟨0, 0, 2⟩ ∧ One H1 Fp' n (put w t r).1 (put w t r).2.1 ∧ EvR H1 Fp' R (put w t r).2.2 ∧ Turn Fp H H1 := by
  obtain ⟨⟨A0, any, sp, X, hP⟩, hfp⟩ := hB
  obtain ⟨R, H1, ⟨hT1, ⟨A1, any1, sp1, X1, hP1⟩, hE1⟩, hc1⟩ := WC.eff (ys := ys) (lo := 0) (E := EA) (f := 12) rfl (escPut_wc (fun _ _ => Nat.zero_le _) hfp hP r hr ht)
  refine ⟨R, H1, grow Fp H H1, hc1, ⟨⟨_, _, _, _, hP1⟩, ?_⟩, hE1, hT1⟩
  rintro k (h | ⟨_, h⟩)
  · exact Nat.lt_of_lt_of_le (hfp k h) hT1.next
  · exact h
theorem One.push {Fp : Nat → Prop} (hB : One H Fp n w t) (b : Blk) : One (H.push b) Fp n w t := by
  obtain ⟨⟨A0, any, sp, X, hP⟩, hfp⟩ := hB
  exact ⟨⟨_, _, _, _, hP.keep (fun k h => h) (Nat.le_succ _) fun k hk hl => by rw [get_push, if_neg (by omega)]⟩, fun k hk => Nat.lt_succ_of_lt (hfp k hk)⟩
theorem One.quiet {Fp : Nat → Prop} (hB : One H Fp n w t) : CallR EA ys lo 14 [.op n 0 0 0] H (.v (.bool (decide (w = 0)))) H ⟨0, 0, 1⟩ := by
  obtain ⟨⟨A0, any, sp, X, hP⟩, hfp⟩ := hB
  exact Quiet_run hP
theorem put_mem (w : Int) (t : List Int) (r : Int) : ∀ c ∈ (put w t r).2.1, c ∈ t ∨ c = r := by
  unfold put
  intro c
  (repeat' split) <;> simp <;> (try exact Or.inl)
theorem put_len (w : Int) (t : List Int) (r : Int) : (put w t r).2.1.length ≤ t.length + 1 := by
  unfold put
  (repeat' split) <;> simp
end
end Go.Am
