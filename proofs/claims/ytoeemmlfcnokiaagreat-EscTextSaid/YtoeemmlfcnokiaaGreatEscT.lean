/- EscText: any text, read sign by sign. -/
import Derived.Test.YtoeemmlfcnokiaaGreatEsc5
import Derived.Test.YtoeemmlfcnokiaaGreatUtf1
set_option linter.all false
set_option linter.deprecated false
namespace Go.Am
open Go.Proofs
set_option maxRecDepth 8000
set_option maxHeartbeats 1000000
section
variable {ys : List (Nat × LRec)} {lo : Nat} {H : AHeap}
theorem EscAll_call (A : AV) (l : List Int) (hA : Sl 1 A (runes l)) (hr : ∀ c ∈ l, -2147483648 ≤ c ∧ c ≤ 2147483647) : CallR EZ ys lo 3 [A] H (.v (.bool true)) H ⟨0, 0, 0⟩ := by
  refine WC.pure' rfl (by rcases hA with rfl | ⟨_, rfl | rfl⟩ <;> rfl) ?_ _ _ _
  obtain ⟨n, r, H', h1, h2⟩ := EscAll_wc A l hA hr
  exact ⟨n, r, H', h1, by rw [h2]; rfl⟩
theorem EscText_law (s : ByteArray) (hs : s.size ≤ maxLen) : WC EZ [] 0 4 [.v (.string s)] .empty fun x _ => x = .v (.bool true) := by
  have hz : (s.extract 0 (min s.size 200)).size < 2 ^ 40 := by rw [extract_size _ _ _ (Nat.zero_le _) (by omega)]; omega
  obtain ⟨A, l, n, hall, hA, _, hr⟩ := All_call (s.extract 0 (min s.size 200)) hz
  have hsh := Short_run (ys := []) (lo := 0) (H := .empty) s 200
  refine WC.enter Tryz.func4 rfl (Nat.le_of_ble_eq_true rfl) (by simp only [Slots.of, Tryz.ntmps4, Nat.reduceAdd, Nat.reduceDiv, rows8P, row8]; rfl) ?_
  repeat' (first
   | apply V.sq
   | apply V.bl
   | apply V.sc
   | apply V.skip
   | apply V.label
   | apply V.ret
   | apply V.exit
   | apply SeqQ.normal
   | apply SeqQ.ret
   | apply SeqQ.exit
   | apply BlockQ.normal
   | apply BlockQ.ret
   | apply BlockQ.here
   | (apply BlockQ.there; decide)
   | apply LoopS.ret
   | apply LoopS.exit
   | apply LoopF.ret
   | apply LoopF.exit
   | (apply V.reg; (focus ((repeat (first
   | exact RO.nil
   | (apply RO.op; rfl; (simp only [go_sem, Nat.reduceDiv, Nat.reduceMod, Nat.reduceAdd, Nat.reduceSub, Nat.reduceEqDiff, Nat.reduceLeDiff, Nat.reduceLT, Nat.reduceMul, reduceIte, Nat.reducePow, Int.reduceEq, List.toList_toArray]; (first | rfl | (apply ite_ok; (first | assumption | rfl | omega | (refine ⟨?_, ?_⟩ <;> omega)); rfl))); rfl)
   | (apply RO.opg; (first | (apply wantT; rfl; rfl; (simp only [Nat.reduceDiv, Nat.reduceMod, get_nth, nth_zero, nth_succ]; rfl)) | (apply wantF; rfl; rfl; (simp only [Nat.reduceDiv, Nat.reduceMod, get_nth, nth_zero, nth_succ]; rfl)) | (apply wantTg; rfl; rfl; (simp only [Nat.reduceDiv, Nat.reduceMod, get_nth, nth_zero, nth_succ]; rfl)) | (apply wantFg; rfl; rfl; (simp only [Nat.reduceDiv, Nat.reduceMod, get_nth, nth_zero, nth_succ]; rfl)) | (apply wantU; rfl; rfl; (simp only [Nat.reduceDiv, Nat.reduceMod, get_nth, nth_zero, nth_succ]; rfl))); (intro h; (try simp only [Bool.and_eq_true, Bool.not_eq_true', Bool.not_eq_eq_eq_not, Bool.not_true] at h); simp only [h, go_sem, Nat.reduceDiv, Nat.reduceMod, Nat.reduceAdd, Nat.reduceSub, Nat.reduceEqDiff, Nat.reduceLeDiff, Nat.reduceLT, Nat.reduceMul, reduceIte, Nat.reducePow, Int.reduceEq, List.toList_toArray]; (first | rfl | (apply ite_ok; (first | assumption | rfl | omega | (refine ⟨?_, ?_⟩ <;> omega)); rfl))); rfl)
   | (apply RO.call; exact want0 rfl; (simp only [go_sem, Nat.reduceDiv, Nat.reduceMod, Nat.reduceAdd, Nat.reduceSub, Nat.reduceEqDiff, Nat.reduceLeDiff, Nat.reduceLT, Nat.reduceMul, reduceIte, Nat.reducePow, Int.reduceEq, List.toList_toArray]; rfl); (first | (apply begun_call <;> (first | assumption | rfl | omega | (refine ⟨?_, ?_⟩ <;> omega))) | (apply hsh <;> (first | assumption | rfl | omega | (refine ⟨?_, ?_⟩ <;> omega))) | (apply hall <;> (first | assumption | rfl | omega | (refine ⟨?_, ?_⟩ <;> omega))) | (apply EscAll_call A l hA hr <;> (first | assumption | rfl | omega | (refine ⟨?_, ?_⟩ <;> omega)))); rfl)
   | (apply RO.callg; (first | (apply wantT; rfl; rfl; (simp only [Nat.reduceDiv, Nat.reduceMod, get_nth, nth_zero, nth_succ]; rfl)) | (apply wantF; rfl; rfl; (simp only [Nat.reduceDiv, Nat.reduceMod, get_nth, nth_zero, nth_succ]; rfl)) | (apply wantTg; rfl; rfl; (simp only [Nat.reduceDiv, Nat.reduceMod, get_nth, nth_zero, nth_succ]; rfl)) | (apply wantFg; rfl; rfl; (simp only [Nat.reduceDiv, Nat.reduceMod, get_nth, nth_zero, nth_succ]; rfl)) | (apply wantU; rfl; rfl; (simp only [Nat.reduceDiv, Nat.reduceMod, get_nth, nth_zero, nth_succ]; rfl))); (intro h; (try simp only [Bool.and_eq_true, Bool.not_eq_true', Bool.not_eq_eq_eq_not, Bool.not_true] at h); simp only [h, go_sem, Nat.reduceDiv, Nat.reduceMod, Nat.reduceAdd, Nat.reduceSub, Nat.reduceEqDiff, Nat.reduceLeDiff, Nat.reduceLT, Nat.reduceMul, reduceIte, Nat.reducePow, Int.reduceEq, List.toList_toArray]; rfl); (intro h; (try simp only [Bool.and_eq_true, Bool.not_eq_true', Bool.not_eq_eq_eq_not, Bool.not_true] at h); (first | (apply begun_call <;> (first | assumption | rfl | omega | (refine ⟨?_, ?_⟩ <;> omega))) | (apply hsh <;> (first | assumption | rfl | omega | (refine ⟨?_, ?_⟩ <;> omega))) | (apply hall <;> (first | assumption | rfl | omega | (refine ⟨?_, ?_⟩ <;> omega))) | (apply EscAll_call A l hA hr <;> (first | assumption | rfl | omega | (refine ⟨?_, ?_⟩ <;> omega))))); rfl)
   | (apply RO.no; apply wantNo; (first | (apply wantT; rfl; rfl; (simp only [Nat.reduceDiv, Nat.reduceMod, get_nth, nth_zero, nth_succ]; rfl)) | (apply wantF; rfl; rfl; (simp only [Nat.reduceDiv, Nat.reduceMod, get_nth, nth_zero, nth_succ]; rfl)) | (apply wantTg; rfl; rfl; (simp only [Nat.reduceDiv, Nat.reduceMod, get_nth, nth_zero, nth_succ]; rfl)) | (apply wantFg; rfl; rfl; (simp only [Nat.reduceDiv, Nat.reduceMod, get_nth, nth_zero, nth_succ]; rfl)) | (apply wantU; rfl; rfl; (simp only [Nat.reduceDiv, Nat.reduceMod, get_nth, nth_zero, nth_succ]; rfl))); (first | rfl | (simp only [Bool.and_false, Bool.false_and, Bool.not_true, Bool.not_false, decide_true, decide_false, Bool.or_true, Bool.true_or, not_true_eq_false, not_false_eq_true, Bool.and_true, Bool.true_and]; done)); rfl))); done)))
   | (apply V.regd; (focus ((repeat (first
   | exact RO.nil
   | (apply RO.op; rfl; (simp only [go_sem, Nat.reduceDiv, Nat.reduceMod, Nat.reduceAdd, Nat.reduceSub, Nat.reduceEqDiff, Nat.reduceLeDiff, Nat.reduceLT, Nat.reduceMul, reduceIte, Nat.reducePow, Int.reduceEq, List.toList_toArray]; (first | rfl | (apply ite_ok; (first | assumption | rfl | omega | (refine ⟨?_, ?_⟩ <;> omega)); rfl))); rfl)
   | (apply RO.opg; (first | (apply wantT; rfl; rfl; (simp only [Nat.reduceDiv, Nat.reduceMod, get_nth, nth_zero, nth_succ]; rfl)) | (apply wantF; rfl; rfl; (simp only [Nat.reduceDiv, Nat.reduceMod, get_nth, nth_zero, nth_succ]; rfl)) | (apply wantTg; rfl; rfl; (simp only [Nat.reduceDiv, Nat.reduceMod, get_nth, nth_zero, nth_succ]; rfl)) | (apply wantFg; rfl; rfl; (simp only [Nat.reduceDiv, Nat.reduceMod, get_nth, nth_zero, nth_succ]; rfl)) | (apply wantU; rfl; rfl; (simp only [Nat.reduceDiv, Nat.reduceMod, get_nth, nth_zero, nth_succ]; rfl))); (intro h; (try simp only [Bool.and_eq_true, Bool.not_eq_true', Bool.not_eq_eq_eq_not, Bool.not_true] at h); simp only [h, go_sem, Nat.reduceDiv, Nat.reduceMod, Nat.reduceAdd, Nat.reduceSub, Nat.reduceEqDiff, Nat.reduceLeDiff, Nat.reduceLT, Nat.reduceMul, reduceIte, Nat.reducePow, Int.reduceEq, List.toList_toArray]; (first | rfl | (apply ite_ok; (first | assumption | rfl | omega | (refine ⟨?_, ?_⟩ <;> omega)); rfl))); rfl)
   | (apply RO.call; exact want0 rfl; (simp only [go_sem, Nat.reduceDiv, Nat.reduceMod, Nat.reduceAdd, Nat.reduceSub, Nat.reduceEqDiff, Nat.reduceLeDiff, Nat.reduceLT, Nat.reduceMul, reduceIte, Nat.reducePow, Int.reduceEq, List.toList_toArray]; rfl); (first | (apply begun_call <;> (first | assumption | rfl | omega | (refine ⟨?_, ?_⟩ <;> omega))) | (apply hsh <;> (first | assumption | rfl | omega | (refine ⟨?_, ?_⟩ <;> omega))) | (apply hall <;> (first | assumption | rfl | omega | (refine ⟨?_, ?_⟩ <;> omega))) | (apply EscAll_call A l hA hr <;> (first | assumption | rfl | omega | (refine ⟨?_, ?_⟩ <;> omega)))); rfl)
   | (apply RO.callg; (first | (apply wantT; rfl; rfl; (simp only [Nat.reduceDiv, Nat.reduceMod, get_nth, nth_zero, nth_succ]; rfl)) | (apply wantF; rfl; rfl; (simp only [Nat.reduceDiv, Nat.reduceMod, get_nth, nth_zero, nth_succ]; rfl)) | (apply wantTg; rfl; rfl; (simp only [Nat.reduceDiv, Nat.reduceMod, get_nth, nth_zero, nth_succ]; rfl)) | (apply wantFg; rfl; rfl; (simp only [Nat.reduceDiv, Nat.reduceMod, get_nth, nth_zero, nth_succ]; rfl)) | (apply wantU; rfl; rfl; (simp only [Nat.reduceDiv, Nat.reduceMod, get_nth, nth_zero, nth_succ]; rfl))); (intro h; (try simp only [Bool.and_eq_true, Bool.not_eq_true', Bool.not_eq_eq_eq_not, Bool.not_true] at h); simp only [h, go_sem, Nat.reduceDiv, Nat.reduceMod, Nat.reduceAdd, Nat.reduceSub, Nat.reduceEqDiff, Nat.reduceLeDiff, Nat.reduceLT, Nat.reduceMul, reduceIte, Nat.reducePow, Int.reduceEq, List.toList_toArray]; rfl); (intro h; (try simp only [Bool.and_eq_true, Bool.not_eq_true', Bool.not_eq_eq_eq_not, Bool.not_true] at h); (first | (apply begun_call <;> (first | assumption | rfl | omega | (refine ⟨?_, ?_⟩ <;> omega))) | (apply hsh <;> (first | assumption | rfl | omega | (refine ⟨?_, ?_⟩ <;> omega))) | (apply hall <;> (first | assumption | rfl | omega | (refine ⟨?_, ?_⟩ <;> omega))) | (apply EscAll_call A l hA hr <;> (first | assumption | rfl | omega | (refine ⟨?_, ?_⟩ <;> omega))))); rfl)
   | (apply RO.no; apply wantNo; (first | (apply wantT; rfl; rfl; (simp only [Nat.reduceDiv, Nat.reduceMod, get_nth, nth_zero, nth_succ]; rfl)) | (apply wantF; rfl; rfl; (simp only [Nat.reduceDiv, Nat.reduceMod, get_nth, nth_zero, nth_succ]; rfl)) | (apply wantTg; rfl; rfl; (simp only [Nat.reduceDiv, Nat.reduceMod, get_nth, nth_zero, nth_succ]; rfl)) | (apply wantFg; rfl; rfl; (simp only [Nat.reduceDiv, Nat.reduceMod, get_nth, nth_zero, nth_succ]; rfl)) | (apply wantU; rfl; rfl; (simp only [Nat.reduceDiv, Nat.reduceMod, get_nth, nth_zero, nth_succ]; rfl))); (first | rfl | (simp only [Bool.and_false, Bool.false_and, Bool.not_true, Bool.not_false, decide_true, decide_false, Bool.or_true, Bool.true_or, not_true_eq_false, not_false_eq_true, Bool.and_true, Bool.true_and]; done)); rfl))); done)); (focus kernel_rfl); (focus (first | (apply okPairs_kinds; (focus ((repeat (first | exact Kinds.nil | (apply Kinds.ro; (first | exact RoT.zero | exact RoT.rd | exact RoT.all | exact RoT.rdTr _ | assumption)) | apply Kinds.any)); done)); decide +kernel) | kernel_rfl)))
   | (refine V.cond rfl (fun h => ?_) (fun h => ?_) <;> (try simp only [decide_eq_true_eq, decide_eq_false_iff_not, Bool.and_eq_true, Bool.or_eq_true, Bool.and_eq_false_iff, Bool.or_eq_false_iff, Bool.not_eq_true', Bool.not_eq_false', Bool.not_true, Bool.not_false, Classical.not_not, Int.not_lt, Int.not_le, reduceCtorEq, not_true_eq_false, not_false_eq_true, decide_true, decide_false, Int.reduceEq, Int.reduceLT, Int.reduceLE] at h) <;> (try (exfalso; omega)))
   | (refine FnQ.normal (res0 Tryz.results4) rfl ?_; (try dsimp only))
   | (refine FnQ.ret (res0 Tryz.results4) rfl ?_; (try dsimp only))
   | (refine FnQ.ret (res1 Tryz.results4) (by simp only [Nat.reduceDiv, Nat.reduceMod, get_nth, nth_zero, nth_succ]; rfl) ?_; (try dsimp only))
   | (refine FnQ.ret (res2 Tryz.results4) (by simp only [Nat.reduceDiv, Nat.reduceMod, get_nth, nth_zero, nth_succ]; rfl) ?_; (try dsimp only))
   | (refine FnQ.retB (resc Tryz.results4) (by simp only [cellR_op, go_sem, Nat.reduceDiv, Nat.reduceMod, Nat.reduceAdd, Nat.reduceSub, Nat.reduceEqDiff, Nat.reduceLeDiff, Nat.reduceLT, Nat.reduceMul, reduceIte, Nat.reducePow, Int.reduceEq, List.toList_toArray]; rfl) ?_; (try dsimp only))
   | (refine FnQ.retB (resct Tryz.results4) (by simp only [cellR_op, go_sem, Nat.reduceDiv, Nat.reduceMod, Nat.reduceAdd, Nat.reduceSub, Nat.reduceEqDiff, Nat.reduceLeDiff, Nat.reduceLT, Nat.reduceMul, reduceIte, Nat.reducePow, Int.reduceEq, List.toList_toArray]; rfl) ?_; (try dsimp only)))
end
end Go.Am
