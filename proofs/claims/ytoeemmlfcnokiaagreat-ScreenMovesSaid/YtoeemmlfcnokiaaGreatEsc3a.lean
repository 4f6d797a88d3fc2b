/- The reference's parser. -/
import Derived.Test.YtoeemmlfcnokiaaGreatEsc2
set_option linter.all false
set_option linter.deprecated false
namespace Go.Am
open Go.Proofs
set_option maxRecDepth 8000
set_option maxHeartbeats 1000000
section
variable {ys : List (Nat × LRec)} {lo : Nat} {H : AHeap} {F : Nat → Prop} {n : Nat} {w : Int} {t : List Int}
theorem Sign_run (r : Int) : CallR EZ ys lo 134 [.v (.int .i32 r)] H (.v (.bool (signB r))) H ⟨0, 0, 0⟩ := by
  refine WC.pure' rfl rfl ?_ _ _ _
  refine zvin Tryz.func134 Tryz.ntmps134 ?_
  repeat' (first
   | apply V.sq
   | apply V.bl
   | apply V.sc
   | apply V.skip
   | apply V.label
   | apply V.ret
   | apply V.exit
   | apply SeqQ.normal
   | apply SeqQ.ret
   | apply SeqQ.exit
   | apply BlockQ.normal
   | apply BlockQ.ret
   | apply BlockQ.here
   | refine zbt ?_
   | apply LoopS.ret
   | apply LoopS.exit
   | apply LoopF.ret
   | apply LoopF.exit
   | (apply V.reg; (focus ((repeat (first
   | exact RO.nil
   | (apply RO.op; rfl; (simp only [go_sem, get_nth, fieldAddrA, Nat.reduceDiv, Nat.reduceMod, Nat.reduceAdd, Nat.reduceSub, Nat.reduceEqDiff, Nat.reduceLeDiff, Nat.reduceLT, Nat.reduceMul, reduceIte, Nat.reducePow, Int.reduceEq, List.toList_toArray]; exact zL); rfl)
   | (apply RO.opg; exact zW; (intro h; (try simp only [Bool.and_eq_true, Bool.not_eq_true', Bool.not_eq_eq_eq_not, Bool.not_true] at h); simp only [h, go_sem, get_nth, fieldAddrA, Nat.reduceDiv, Nat.reduceMod, Nat.reduceAdd, Nat.reduceSub, Nat.reduceEqDiff, Nat.reduceLeDiff, Nat.reduceLT, Nat.reduceMul, reduceIte, Nat.reducePow, Int.reduceEq, List.toList_toArray]; exact zL); rfl)
   | (apply RO.call; exact want0 rfl; (simp only [go_sem, get_nth, fieldAddrA, Nat.reduceDiv, Nat.reduceMod, Nat.reduceAdd, Nat.reduceSub, Nat.reduceEqDiff, Nat.reduceLeDiff, Nat.reduceLT, Nat.reduceMul, reduceIte, Nat.reducePow, Int.reduceEq, List.toList_toArray]; rfl); fail; rfl)
   | (apply RO.callg; exact zW; (intro h; (try simp only [Bool.and_eq_true, Bool.not_eq_true', Bool.not_eq_eq_eq_not, Bool.not_true] at h); simp only [h, go_sem, get_nth, fieldAddrA, Nat.reduceDiv, Nat.reduceMod, Nat.reduceAdd, Nat.reduceSub, Nat.reduceEqDiff, Nat.reduceLeDiff, Nat.reduceLT, Nat.reduceMul, reduceIte, Nat.reducePow, Int.reduceEq, List.toList_toArray]; rfl); (intro h; (try simp only [Bool.and_eq_true, Bool.not_eq_true', Bool.not_eq_eq_eq_not, Bool.not_true] at h); fail); rfl)
   | (apply RO.no; apply wantNo; exact zW; (first | rfl | (focus (simp only [Bool.and_false, Bool.false_and, Bool.not_true, Bool.not_false, decide_true, decide_false, Bool.or_true, Bool.true_or, not_true_eq_false, not_false_eq_true, Bool.and_true, Bool.true_and]; done))); rfl))); done)))
   | (apply V.regd; (focus ((repeat (first
   | exact RO.nil
   | (apply RO.op; rfl; (simp only [go_sem, get_nth, fieldAddrA, Nat.reduceDiv, Nat.reduceMod, Nat.reduceAdd, Nat.reduceSub, Nat.reduceEqDiff, Nat.reduceLeDiff, Nat.reduceLT, Nat.reduceMul, reduceIte, Nat.reducePow, Int.reduceEq, List.toList_toArray]; exact zL); rfl)
   | (apply RO.opg; exact zW; (intro h; (try simp only [Bool.and_eq_true, Bool.not_eq_true', Bool.not_eq_eq_eq_not, Bool.not_true] at h); simp only [h, go_sem, get_nth, fieldAddrA, Nat.reduceDiv, Nat.reduceMod, Nat.reduceAdd, Nat.reduceSub, Nat.reduceEqDiff, Nat.reduceLeDiff, Nat.reduceLT, Nat.reduceMul, reduceIte, Nat.reducePow, Int.reduceEq, List.toList_toArray]; exact zL); rfl)
   | (apply RO.call; exact want0 rfl; (simp only [go_sem, get_nth, fieldAddrA, Nat.reduceDiv, Nat.reduceMod, Nat.reduceAdd, Nat.reduceSub, Nat.reduceEqDiff, Nat.reduceLeDiff, Nat.reduceLT, Nat.reduceMul, reduceIte, Nat.reducePow, Int.reduceEq, List.toList_toArray]; rfl); fail; rfl)
   | (apply RO.callg; exact zW; (intro h; (try simp only [Bool.and_eq_true, Bool.not_eq_true', Bool.not_eq_eq_eq_not, Bool.not_true] at h); simp only [h, go_sem, get_nth, fieldAddrA, Nat.reduceDiv, Nat.reduceMod, Nat.reduceAdd, Nat.reduceSub, Nat.reduceEqDiff, Nat.reduceLeDiff, Nat.reduceLT, Nat.reduceMul, reduceIte, Nat.reducePow, Int.reduceEq, List.toList_toArray]; rfl); (intro h; (try simp only [Bool.and_eq_true, Bool.not_eq_true', Bool.not_eq_eq_eq_not, Bool.not_true] at h); fail); rfl)
   | (apply RO.no; apply wantNo; exact zW; (first | rfl | (focus (simp only [Bool.and_false, Bool.false_and, Bool.not_true, Bool.not_false, decide_true, decide_false, Bool.or_true, Bool.true_or, not_true_eq_false, not_false_eq_true, Bool.and_true, Bool.true_and]; done))); rfl))); done)); exact zK; exact zE)
   | (refine zvf (fun h => ?_) (fun h => ?_) <;> (replace h := zB h) <;> (try (exfalso; first | exact h | omega)))
   | (refine zfc Tryz.results134 ?_; (try dsimp only)))
  all_goals (simp only [frzR_v, signB]; congr 2; rw [Bool.eq_iff_iff]; simp only [Bool.and_eq_true, Bool.or_eq_true, decide_eq_true_eq]; omega)
theorem refPut_sign (r : Int) (hS : signB r = true) : CallR EZ ys lo 119 [.v (.int .i32 r)] H (.v (.string (strOfNums (enc r)))) H ⟨0, 0, 0⟩ := by
  have hs := of_decide_eq_true hS
  have e1 : r.tdiv 64 = r / 64 := Int.tdiv_eq_ediv_of_nonneg hs.1
  have e2 : r.tdiv 4096 = r / 4096 := Int.tdiv_eq_ediv_of_nonneg hs.1
  have e3 : r.tdiv 262144 = r / 262144 := Int.tdiv_eq_ediv_of_nonneg hs.1
  have e4 : r.tmod 64 = r % 64 := Int.tmod_eq_emod_of_nonneg hs.1
  have f1 := IntWalk.i32_in (r / 64) (by omega)
  have f2 := IntWalk.i32_in (r / 4096) (by omega)
  have f3 := IntWalk.i32_in (r / 262144) (by omega)
  have g1 : (r / 64).tmod 64 = r / 64 % 64 := Int.tmod_eq_emod_of_nonneg (by omega)
  have g2 : (r / 4096).tmod 64 = r / 4096 % 64 := Int.tmod_eq_emod_of_nonneg (by omega)
  refine WC.pure' rfl rfl ?_ _ _ _
  refine zvin Tryz.func119 Tryz.ntmps119 ?_
  repeat' (first
   | apply V.sq
   | apply V.bl
   | apply V.sc
   | apply V.skip
   | apply V.label
   | apply V.ret
   | apply V.exit
   | apply SeqQ.normal
   | apply SeqQ.ret
   | apply SeqQ.exit
   | apply BlockQ.normal
   | apply BlockQ.ret
   | apply BlockQ.here
   | refine zbt ?_
   | apply LoopS.ret
   | apply LoopS.exit
   | apply LoopF.ret
   | apply LoopF.exit
   | (apply V.reg; (focus ((repeat (first
   | exact RO.nil
   | (apply RO.op; rfl; (simp only [e1, e2, e3, e4, f1, f2, f3, g1, g2, go_sem, get_nth, fieldAddrA, Nat.reduceDiv, Nat.reduceMod, Nat.reduceAdd, Nat.reduceSub, Nat.reduceEqDiff, Nat.reduceLeDiff, Nat.reduceLT, Nat.reduceMul, reduceIte, Nat.reducePow, Int.reduceEq, List.toList_toArray]; exact zL); rfl)
   | (apply RO.opg; exact zW; (intro h; (try simp only [Bool.and_eq_true, Bool.not_eq_true', Bool.not_eq_eq_eq_not, Bool.not_true] at h); simp only [h, e1, e2, e3, e4, f1, f2, f3, g1, g2, go_sem, get_nth, fieldAddrA, Nat.reduceDiv, Nat.reduceMod, Nat.reduceAdd, Nat.reduceSub, Nat.reduceEqDiff, Nat.reduceLeDiff, Nat.reduceLT, Nat.reduceMul, reduceIte, Nat.reducePow, Int.reduceEq, List.toList_toArray]; exact zL); rfl)
   | (apply RO.call; exact want0 rfl; (simp only [e1, e2, e3, e4, f1, f2, f3, g1, g2, go_sem, get_nth, fieldAddrA, Nat.reduceDiv, Nat.reduceMod, Nat.reduceAdd, Nat.reduceSub, Nat.reduceEqDiff, Nat.reduceLeDiff, Nat.reduceLT, Nat.reduceMul, reduceIte, Nat.reducePow, Int.reduceEq, List.toList_toArray]; rfl); (first | (apply Sign_run <;> (exact zD))); rfl)
   | (apply RO.callg; exact zW; (intro h; (try simp only [Bool.and_eq_true, Bool.not_eq_true', Bool.not_eq_eq_eq_not, Bool.not_true] at h); simp only [h, e1, e2, e3, e4, f1, f2, f3, g1, g2, go_sem, get_nth, fieldAddrA, Nat.reduceDiv, Nat.reduceMod, Nat.reduceAdd, Nat.reduceSub, Nat.reduceEqDiff, Nat.reduceLeDiff, Nat.reduceLT, Nat.reduceMul, reduceIte, Nat.reducePow, Int.reduceEq, List.toList_toArray]; rfl); (intro h; (try simp only [Bool.and_eq_true, Bool.not_eq_true', Bool.not_eq_eq_eq_not, Bool.not_true] at h); (first | (apply Sign_run <;> (exact zD)))); rfl)
   | (apply RO.no; apply wantNo; exact zW; (first | rfl | (focus (simp only [e1, e2, e3, e4, f1, f2, f3, g1, g2, Bool.and_false, Bool.false_and, Bool.not_true, Bool.not_false, decide_true, decide_false, Bool.or_true, Bool.true_or, not_true_eq_false, not_false_eq_true, Bool.and_true, Bool.true_and]; done))); rfl))); done)))
   | (apply V.regd; (focus ((repeat (first
   | exact RO.nil
   | (apply RO.op; rfl; (simp only [e1, e2, e3, e4, f1, f2, f3, g1, g2, go_sem, get_nth, fieldAddrA, Nat.reduceDiv, Nat.reduceMod, Nat.reduceAdd, Nat.reduceSub, Nat.reduceEqDiff, Nat.reduceLeDiff, Nat.reduceLT, Nat.reduceMul, reduceIte, Nat.reducePow, Int.reduceEq, List.toList_toArray]; exact zL); rfl)
   | (apply RO.opg; exact zW; (intro h; (try simp only [Bool.and_eq_true, Bool.not_eq_true', Bool.not_eq_eq_eq_not, Bool.not_true] at h); simp only [h, e1, e2, e3, e4, f1, f2, f3, g1, g2, go_sem, get_nth, fieldAddrA, Nat.reduceDiv, Nat.reduceMod, Nat.reduceAdd, Nat.reduceSub, Nat.reduceEqDiff, Nat.reduceLeDiff, Nat.reduceLT, Nat.reduceMul, reduceIte, Nat.reducePow, Int.reduceEq, List.toList_toArray]; exact zL); rfl)
   | (apply RO.call; exact want0 rfl; (simp only [e1, e2, e3, e4, f1, f2, f3, g1, g2, go_sem, get_nth, fieldAddrA, Nat.reduceDiv, Nat.reduceMod, Nat.reduceAdd, Nat.reduceSub, Nat.reduceEqDiff, Nat.reduceLeDiff, Nat.reduceLT, Nat.reduceMul, reduceIte, Nat.reducePow, Int.reduceEq, List.toList_toArray]; rfl); (first | (apply Sign_run <;> (exact zD))); rfl)
   | (apply RO.callg; exact zW; (intro h; (try simp only [Bool.and_eq_true, Bool.not_eq_true', Bool.not_eq_eq_eq_not, Bool.not_true] at h); simp only [h, e1, e2, e3, e4, f1, f2, f3, g1, g2, go_sem, get_nth, fieldAddrA, Nat.reduceDiv, Nat.reduceMod, Nat.reduceAdd, Nat.reduceSub, Nat.reduceEqDiff, Nat.reduceLeDiff, Nat.reduceLT, Nat.reduceMul, reduceIte, Nat.reducePow, Int.reduceEq, List.toList_toArray]; rfl); (intro h; (try simp only [Bool.and_eq_true, Bool.not_eq_true', Bool.not_eq_eq_eq_not, Bool.not_true] at h); (first | (apply Sign_run <;> (exact zD)))); rfl)
   | (apply RO.no; apply wantNo; exact zW; (first | rfl | (focus (simp only [e1, e2, e3, e4, f1, f2, f3, g1, g2, Bool.and_false, Bool.false_and, Bool.not_true, Bool.not_false, decide_true, decide_false, Bool.or_true, Bool.true_or, not_true_eq_false, not_false_eq_true, Bool.and_true, Bool.true_and]; done))); rfl))); done)); exact zK; exact zE)
   | (refine zvf (fun h => ?_) (fun h => ?_) <;> (replace h := zB h) <;> (try (exfalso; first | exact h | omega)))
   | (refine zfc Tryz.results119 ?_; (try dsimp only)))
  · rw [hS] at h; cases h
  · simp only [frzR_v]
    rw [enc, if_pos hS, if_pos (by omega), wrap_u8', show r % 256 = r by omega]
  · simp only [frzR_v]
    rw [enc, if_pos hS, if_neg (by omega), if_pos (by omega), IntWalk.i32_in (192 + r / 64) (by omega), IntWalk.i32_in (128 + r % 64) (by omega), IntWalk.u8_in _ (by omega), IntWalk.u8_in _ (by omega)]
  · simp only [frzR_v]
    rw [enc, if_pos hS, if_neg (by omega), if_neg (by omega), if_pos (by omega), IntWalk.i32_in (224 + r / 4096) (by omega), IntWalk.i32_in (128 + r / 64 % 64) (by omega), IntWalk.i32_in (128 + r % 64) (by omega), IntWalk.u8_in _ (by omega), IntWalk.u8_in _ (by omega), IntWalk.u8_in _ (by omega)]
  · simp only [frzR_v]
    rw [enc, if_pos hS, if_neg (by omega), if_neg (by omega), if_neg (by omega), IntWalk.i32_in (240 + r / 262144) (by omega), IntWalk.i32_in (128 + r / 4096 % 64) (by omega), IntWalk.i32_in (128 + r / 64 % 64) (by omega), IntWalk.i32_in (128 + r % 64) (by omega), IntWalk.u8_in _ (by omega), IntWalk.u8_in _ (by omega), IntWalk.u8_in _ (by omega), IntWalk.u8_in _ (by omega)]
theorem refPut_run (r : Int) : CallR EZ ys lo 119 [.v (.int .i32 r)] H (.v (.string (strOfNums (enc r)))) H ⟨0, 0, 0⟩ := by
  cases hS : signB r with
  | true => exact refPut_sign r hS
  | false =>
    have e : enc r = enc 65533 := by rw [enc, hS]; rfl
    refine WC.pure' rfl rfl ?_ _ _ _
    refine zvin Tryz.func119 Tryz.ntmps119 ?_
    repeat' (first
     | apply V.sq
     | apply V.bl
     | apply V.sc
     | apply V.skip
     | apply V.label
     | apply V.ret
     | apply V.exit
     | apply SeqQ.normal
     | apply SeqQ.ret
     | apply SeqQ.exit
     | apply BlockQ.normal
     | apply BlockQ.ret
     | apply BlockQ.here
     | refine zbt ?_
     | apply LoopS.ret
     | apply LoopS.exit
     | apply LoopF.ret
     | apply LoopF.exit
     | (apply V.reg; (focus ((repeat (first
     | exact RO.nil
     | (apply RO.op; rfl; (simp only [go_sem, get_nth, fieldAddrA, Nat.reduceDiv, Nat.reduceMod, Nat.reduceAdd, Nat.reduceSub, Nat.reduceEqDiff, Nat.reduceLeDiff, Nat.reduceLT, Nat.reduceMul, reduceIte, Nat.reducePow, Int.reduceEq, List.toList_toArray]; exact zL); rfl)
     | (apply RO.opg; exact zW; (intro h; (try simp only [Bool.and_eq_true, Bool.not_eq_true', Bool.not_eq_eq_eq_not, Bool.not_true] at h); simp only [h, go_sem, get_nth, fieldAddrA, Nat.reduceDiv, Nat.reduceMod, Nat.reduceAdd, Nat.reduceSub, Nat.reduceEqDiff, Nat.reduceLeDiff, Nat.reduceLT, Nat.reduceMul, reduceIte, Nat.reducePow, Int.reduceEq, List.toList_toArray]; exact zL); rfl)
     | (apply RO.call; exact want0 rfl; (simp only [go_sem, get_nth, fieldAddrA, Nat.reduceDiv, Nat.reduceMod, Nat.reduceAdd, Nat.reduceSub, Nat.reduceEqDiff, Nat.reduceLeDiff, Nat.reduceLT, Nat.reduceMul, reduceIte, Nat.reducePow, Int.reduceEq, List.toList_toArray]; rfl); (first | (apply Sign_run <;> (exact zD)) | (apply refPut_sign 65533 rfl <;> (exact zD))); rfl)
     | (apply RO.callg; exact zW; (intro h; (try simp only [Bool.and_eq_true, Bool.not_eq_true', Bool.not_eq_eq_eq_not, Bool.not_true] at h); simp only [h, go_sem, get_nth, fieldAddrA, Nat.reduceDiv, Nat.reduceMod, Nat.reduceAdd, Nat.reduceSub, Nat.reduceEqDiff, Nat.reduceLeDiff, Nat.reduceLT, Nat.reduceMul, reduceIte, Nat.reducePow, Int.reduceEq, List.toList_toArray]; rfl); (intro h; (try simp only [Bool.and_eq_true, Bool.not_eq_true', Bool.not_eq_eq_eq_not, Bool.not_true] at h); (first | (apply Sign_run <;> (exact zD)) | (apply refPut_sign 65533 rfl <;> (exact zD)))); rfl)
     | (apply RO.no; apply wantNo; exact zW; (first | rfl | (focus (simp only [Bool.and_false, Bool.false_and, Bool.not_true, Bool.not_false, decide_true, decide_false, Bool.or_true, Bool.true_or, not_true_eq_false, not_false_eq_true, Bool.and_true, Bool.true_and]; done))); rfl))); done)))
     | (apply V.regd; (focus ((repeat (first
     | exact RO.nil
     | (apply RO.op; rfl; (simp only [go_sem, get_nth, fieldAddrA, Nat.reduceDiv, Nat.reduceMod, Nat.reduceAdd, Nat.reduceSub, Nat.reduceEqDiff, Nat.reduceLeDiff, Nat.reduceLT, Nat.reduceMul, reduceIte, Nat.reducePow, Int.reduceEq, List.toList_toArray]; exact zL); rfl)
     | (apply RO.opg; exact zW; (intro h; (try simp only [Bool.and_eq_true, Bool.not_eq_true', Bool.not_eq_eq_eq_not, Bool.not_true] at h); simp only [h, go_sem, get_nth, fieldAddrA, Nat.reduceDiv, Nat.reduceMod, Nat.reduceAdd, Nat.reduceSub, Nat.reduceEqDiff, Nat.reduceLeDiff, Nat.reduceLT, Nat.reduceMul, reduceIte, Nat.reducePow, Int.reduceEq, List.toList_toArray]; exact zL); rfl)
     | (apply RO.call; exact want0 rfl; (simp only [go_sem, get_nth, fieldAddrA, Nat.reduceDiv, Nat.reduceMod, Nat.reduceAdd, Nat.reduceSub, Nat.reduceEqDiff, Nat.reduceLeDiff, Nat.reduceLT, Nat.reduceMul, reduceIte, Nat.reducePow, Int.reduceEq, List.toList_toArray]; rfl); (first | (apply Sign_run <;> (exact zD)) | (apply refPut_sign 65533 rfl <;> (exact zD))); rfl)
     | (apply RO.callg; exact zW; (intro h; (try simp only [Bool.and_eq_true, Bool.not_eq_true', Bool.not_eq_eq_eq_not, Bool.not_true] at h); simp only [h, go_sem, get_nth, fieldAddrA, Nat.reduceDiv, Nat.reduceMod, Nat.reduceAdd, Nat.reduceSub, Nat.reduceEqDiff, Nat.reduceLeDiff, Nat.reduceLT, Nat.reduceMul, reduceIte, Nat.reducePow, Int.reduceEq, List.toList_toArray]; rfl); (intro h; (try simp only [Bool.and_eq_true, Bool.not_eq_true', Bool.not_eq_eq_eq_not, Bool.not_true] at h); (first | (apply Sign_run <;> (exact zD)) | (apply refPut_sign 65533 rfl <;> (exact zD)))); rfl)
     | (apply RO.no; apply wantNo; exact zW; (first | rfl | (focus (simp only [Bool.and_false, Bool.false_and, Bool.not_true, Bool.not_false, decide_true, decide_false, Bool.or_true, Bool.true_or, not_true_eq_false, not_false_eq_true, Bool.and_true, Bool.true_and]; done))); rfl))); done)); exact zK; exact zE)
     | (refine zvf (fun h => ?_) (fun h => ?_) <;> (replace h := zB h) <;> (try (exfalso; first | exact h | omega)))
     | (refine zfc Tryz.results119 ?_; (try dsimp only)))
    · simp only [frzR_v]; rw [e]
    all_goals (have h1 : signB r = true := by assumption
               rw [hS] at h1; cases h1)
end
end Go.Am
