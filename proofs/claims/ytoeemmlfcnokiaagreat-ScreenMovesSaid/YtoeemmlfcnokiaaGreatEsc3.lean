/- The reference's parser. -/
import Derived.Test.YtoeemmlfcnokiaaGreatEsc3a
set_option linter.all false
set_option linter.deprecated false
namespace Go.Am
open Go.Proofs
set_option maxRecDepth 8000
set_option maxHeartbeats 1000000
section
variable {ys : List (Nat × LRec)} {lo : Nat} {H : AHeap} {F : Nat → Prop} {n : Nat} {w : Int} {t : List Int}
theorem Write_wc (lo : Nat) (H : AHeap) (T : AV) (t : List Int) (hT : SlH H 1 T (runes t)) (ht : t.length < 2 ^ 20) : WC EZ [] lo 87 [T] H fun x H'' => x = .v (.string (strOfNums (utf8 t))) := by
  have hu := utf8_len t
  refine zvin Tryz.func87 Tryz.ntmps87 ?_
  repeat' (first
   | apply V.sq
   | apply V.bl
   | apply V.sc
   | apply V.skip
   | apply V.label
   | apply V.ret
   | apply V.exit
   | apply SeqQ.normal
   | apply SeqQ.ret
   | apply SeqQ.exit
   | apply BlockQ.normal
   | apply BlockQ.ret
   | apply BlockQ.here
   | refine zbt ?_
   | apply LoopS.ret
   | apply LoopS.exit
   | apply LoopF.ret
   | apply LoopF.exit
   | (apply V.reg; (focus ((repeat (first
   | exact RO.nil
   | (apply RO.op; rfl; (simp only [go_sem, get_nth, fieldAddrA, Nat.reduceDiv, Nat.reduceMod, Nat.reduceAdd, Nat.reduceSub, Nat.reduceEqDiff, Nat.reduceLeDiff, Nat.reduceLT, Nat.reduceMul, reduceIte, Nat.reducePow, Int.reduceEq, List.toList_toArray]; exact zL); rfl)
   | (apply RO.opg; exact zW; (intro h; (try simp only [Bool.and_eq_true, Bool.not_eq_true', Bool.not_eq_eq_eq_not, Bool.not_true] at h); simp only [h, go_sem, get_nth, fieldAddrA, Nat.reduceDiv, Nat.reduceMod, Nat.reduceAdd, Nat.reduceSub, Nat.reduceEqDiff, Nat.reduceLeDiff, Nat.reduceLT, Nat.reduceMul, reduceIte, Nat.reducePow, Int.reduceEq, List.toList_toArray]; exact zL); rfl)
   | (apply RO.call; exact want0 rfl; (simp only [go_sem, get_nth, fieldAddrA, Nat.reduceDiv, Nat.reduceMod, Nat.reduceAdd, Nat.reduceSub, Nat.reduceEqDiff, Nat.reduceLeDiff, Nat.reduceLT, Nat.reduceMul, reduceIte, Nat.reducePow, Int.reduceEq, List.toList_toArray]; rfl); fail; rfl)
   | (apply RO.callg; exact zW; (intro h; (try simp only [Bool.and_eq_true, Bool.not_eq_true', Bool.not_eq_eq_eq_not, Bool.not_true] at h); simp only [h, go_sem, get_nth, fieldAddrA, Nat.reduceDiv, Nat.reduceMod, Nat.reduceAdd, Nat.reduceSub, Nat.reduceEqDiff, Nat.reduceLeDiff, Nat.reduceLT, Nat.reduceMul, reduceIte, Nat.reducePow, Int.reduceEq, List.toList_toArray]; rfl); (intro h; (try simp only [Bool.and_eq_true, Bool.not_eq_true', Bool.not_eq_eq_eq_not, Bool.not_true] at h); fail); rfl)
   | (apply RO.no; apply wantNo; exact zW; (first | rfl | (focus (simp only [Bool.and_false, Bool.false_and, Bool.not_true, Bool.not_false, decide_true, decide_false, Bool.or_true, Bool.true_or, not_true_eq_false, not_false_eq_true, Bool.and_true, Bool.true_and]; done))); rfl))); done)))
   | (apply V.regd; (focus ((repeat (first
   | exact RO.nil
   | (apply RO.op; rfl; (simp only [go_sem, get_nth, fieldAddrA, Nat.reduceDiv, Nat.reduceMod, Nat.reduceAdd, Nat.reduceSub, Nat.reduceEqDiff, Nat.reduceLeDiff, Nat.reduceLT, Nat.reduceMul, reduceIte, Nat.reducePow, Int.reduceEq, List.toList_toArray]; exact zL); rfl)
   | (apply RO.opg; exact zW; (intro h; (try simp only [Bool.and_eq_true, Bool.not_eq_true', Bool.not_eq_eq_eq_not, Bool.not_true] at h); simp only [h, go_sem, get_nth, fieldAddrA, Nat.reduceDiv, Nat.reduceMod, Nat.reduceAdd, Nat.reduceSub, Nat.reduceEqDiff, Nat.reduceLeDiff, Nat.reduceLT, Nat.reduceMul, reduceIte, Nat.reducePow, Int.reduceEq, List.toList_toArray]; exact zL); rfl)
   | (apply RO.call; exact want0 rfl; (simp only [go_sem, get_nth, fieldAddrA, Nat.reduceDiv, Nat.reduceMod, Nat.reduceAdd, Nat.reduceSub, Nat.reduceEqDiff, Nat.reduceLeDiff, Nat.reduceLT, Nat.reduceMul, reduceIte, Nat.reducePow, Int.reduceEq, List.toList_toArray]; rfl); fail; rfl)
   | (apply RO.callg; exact zW; (intro h; (try simp only [Bool.and_eq_true, Bool.not_eq_true', Bool.not_eq_eq_eq_not, Bool.not_true] at h); simp only [h, go_sem, get_nth, fieldAddrA, Nat.reduceDiv, Nat.reduceMod, Nat.reduceAdd, Nat.reduceSub, Nat.reduceEqDiff, Nat.reduceLeDiff, Nat.reduceLT, Nat.reduceMul, reduceIte, Nat.reducePow, Int.reduceEq, List.toList_toArray]; rfl); (intro h; (try simp only [Bool.and_eq_true, Bool.not_eq_true', Bool.not_eq_eq_eq_not, Bool.not_true] at h); fail); rfl)
   | (apply RO.no; apply wantNo; exact zW; (first | rfl | (focus (simp only [Bool.and_false, Bool.false_and, Bool.not_true, Bool.not_false, decide_true, decide_false, Bool.or_true, Bool.true_or, not_true_eq_false, not_false_eq_true, Bool.and_true, Bool.true_and]; done))); rfl))); done)); exact zK; exact zE)
   | (refine zvf (fun h => ?_) (fun h => ?_) <;> (replace h := zB h) <;> (try (exfalso; first | exact h | omega)))
   | (refine zfc Tryz.results87 ?_; (try dsimp only)))
  apply V.lpF [4, 3, 5, 6, 7, 8, 9, 10, 11, 12, 13, 14, 15, 16, 17] (fun m xs => ∃ (i : Nat) (g : _), xs = .v (.int .i64 i) :: .v (.string (strOfNums (utf8 (t.take i)))) :: g ∧ m = t.length - i ∧ i ≤ t.length) t.length
  focus (intro xs; simp only [putMany, set2, Nat.reduceAdd, Nat.reduceDiv, Nat.reduceMod, nth_zero, nth_succ, List.set_cons_zero, List.set_cons_succ]; rfl)
  focus (first | rfl | simp only [readMany, nth_zero, nth_succ, Nat.reduceDiv, Nat.reduceMod])
  · exact ⟨0, _, rfl, rfl, Nat.zero_le _⟩
  · rintro m xs ⟨i, g, rfl, rfl, hi⟩
    repeat' (first
     | apply V.sq
     | apply V.bl
     | apply V.sc
     | apply V.skip
     | apply V.label
     | apply V.ret
     | apply V.exit
     | apply SeqQ.normal
     | apply SeqQ.ret
     | apply SeqQ.exit
     | apply BlockQ.normal
     | apply BlockQ.ret
     | apply BlockQ.here
     | refine zbt ?_
     | apply LoopS.ret
     | apply LoopS.exit
     | apply LoopF.ret
     | apply LoopF.exit
     | (apply V.reg; (focus ((repeat (first
     | exact RO.nil
     | (apply RO.op; rfl; (simp only [len_SlH EZ lo _ _ hT, runes_len, go_sem, get_nth, fieldAddrA, Nat.reduceDiv, Nat.reduceMod, Nat.reduceAdd, Nat.reduceSub, Nat.reduceEqDiff, Nat.reduceLeDiff, Nat.reduceLT, Nat.reduceMul, reduceIte, Nat.reducePow, Int.reduceEq, List.toList_toArray]; exact zL); rfl)
     | (apply RO.opg; exact zW; (intro h; (try simp only [Bool.and_eq_true, Bool.not_eq_true', Bool.not_eq_eq_eq_not, Bool.not_true] at h); simp only [h, len_SlH EZ lo _ _ hT, runes_len, go_sem, get_nth, fieldAddrA, Nat.reduceDiv, Nat.reduceMod, Nat.reduceAdd, Nat.reduceSub, Nat.reduceEqDiff, Nat.reduceLeDiff, Nat.reduceLT, Nat.reduceMul, reduceIte, Nat.reducePow, Int.reduceEq, List.toList_toArray]; exact zL); rfl)
     | (apply RO.call; exact want0 rfl; (simp only [len_SlH EZ lo _ _ hT, runes_len, go_sem, get_nth, fieldAddrA, Nat.reduceDiv, Nat.reduceMod, Nat.reduceAdd, Nat.reduceSub, Nat.reduceEqDiff, Nat.reduceLeDiff, Nat.reduceLT, Nat.reduceMul, reduceIte, Nat.reducePow, Int.reduceEq, List.toList_toArray]; rfl); fail; rfl)
     | (apply RO.callg; exact zW; (intro h; (try simp only [Bool.and_eq_true, Bool.not_eq_true', Bool.not_eq_eq_eq_not, Bool.not_true] at h); simp only [h, len_SlH EZ lo _ _ hT, runes_len, go_sem, get_nth, fieldAddrA, Nat.reduceDiv, Nat.reduceMod, Nat.reduceAdd, Nat.reduceSub, Nat.reduceEqDiff, Nat.reduceLeDiff, Nat.reduceLT, Nat.reduceMul, reduceIte, Nat.reducePow, Int.reduceEq, List.toList_toArray]; rfl); (intro h; (try simp only [Bool.and_eq_true, Bool.not_eq_true', Bool.not_eq_eq_eq_not, Bool.not_true] at h); fail); rfl)
     | (apply RO.no; apply wantNo; exact zW; (first | rfl | (focus (simp only [len_SlH EZ lo _ _ hT, runes_len, Bool.and_false, Bool.false_and, Bool.not_true, Bool.not_false, decide_true, decide_false, Bool.or_true, Bool.true_or, not_true_eq_false, not_false_eq_true, Bool.and_true, Bool.true_and]; done))); rfl))); done)))
     | (apply V.regd; (focus ((repeat (first
     | exact RO.nil
     | (apply RO.op; rfl; (simp only [len_SlH EZ lo _ _ hT, runes_len, go_sem, get_nth, fieldAddrA, Nat.reduceDiv, Nat.reduceMod, Nat.reduceAdd, Nat.reduceSub, Nat.reduceEqDiff, Nat.reduceLeDiff, Nat.reduceLT, Nat.reduceMul, reduceIte, Nat.reducePow, Int.reduceEq, List.toList_toArray]; exact zL); rfl)
     | (apply RO.opg; exact zW; (intro h; (try simp only [Bool.and_eq_true, Bool.not_eq_true', Bool.not_eq_eq_eq_not, Bool.not_true] at h); simp only [h, len_SlH EZ lo _ _ hT, runes_len, go_sem, get_nth, fieldAddrA, Nat.reduceDiv, Nat.reduceMod, Nat.reduceAdd, Nat.reduceSub, Nat.reduceEqDiff, Nat.reduceLeDiff, Nat.reduceLT, Nat.reduceMul, reduceIte, Nat.reducePow, Int.reduceEq, List.toList_toArray]; exact zL); rfl)
     | (apply RO.call; exact want0 rfl; (simp only [len_SlH EZ lo _ _ hT, runes_len, go_sem, get_nth, fieldAddrA, Nat.reduceDiv, Nat.reduceMod, Nat.reduceAdd, Nat.reduceSub, Nat.reduceEqDiff, Nat.reduceLeDiff, Nat.reduceLT, Nat.reduceMul, reduceIte, Nat.reducePow, Int.reduceEq, List.toList_toArray]; rfl); fail; rfl)
     | (apply RO.callg; exact zW; (intro h; (try simp only [Bool.and_eq_true, Bool.not_eq_true', Bool.not_eq_eq_eq_not, Bool.not_true] at h); simp only [h, len_SlH EZ lo _ _ hT, runes_len, go_sem, get_nth, fieldAddrA, Nat.reduceDiv, Nat.reduceMod, Nat.reduceAdd, Nat.reduceSub, Nat.reduceEqDiff, Nat.reduceLeDiff, Nat.reduceLT, Nat.reduceMul, reduceIte, Nat.reducePow, Int.reduceEq, List.toList_toArray]; rfl); (intro h; (try simp only [Bool.and_eq_true, Bool.not_eq_true', Bool.not_eq_eq_eq_not, Bool.not_true] at h); fail); rfl)
     | (apply RO.no; apply wantNo; exact zW; (first | rfl | (focus (simp only [len_SlH EZ lo _ _ hT, runes_len, Bool.and_false, Bool.false_and, Bool.not_true, Bool.not_false, decide_true, decide_false, Bool.or_true, Bool.true_or, not_true_eq_false, not_false_eq_true, Bool.and_true, Bool.true_and]; done))); rfl))); done)); exact zK; exact zE)
     | (refine zvf (fun h => ?_) (fun h => ?_) <;> (replace h := zB h) <;> (try (exfalso; first | exact h | omega)))
     | (refine zfc Tryz.results87 ?_; (try dsimp only)))
    · have h1 : i < t.length := by omega
      have h2 := h
      have e : t.take (i + 1) = t.take i ++ [t.getD i 0] := by
        rw [List.take_add_one, List.getD_eq_getElem?_getD, List.getElem?_eq_getElem h1]; rfl
      have hlt : (utf8 (t.take i)).length + (enc (t.getD i 0)).length ≤ 9223372036854775807 := by
        have := utf8_len (t.take i)
        have := (enc_len (t.getD i 0)).2
        rw [List.length_take] at *
        omega
      have hsz := bin_sadd EZ 9 (.tmp 11) (.tmp 16) (strOfNums (utf8 (t.take i))) (strOfNums (enc (t.getD i 0))) (by rw [str_size, str_size]; exact hlt)
      repeat' (first
       | apply V.sq
       | apply V.bl
       | apply V.sc
       | apply V.skip
       | apply V.label
       | apply V.ret
       | apply V.exit
       | apply SeqQ.normal
       | apply SeqQ.ret
       | apply SeqQ.exit
       | apply BlockQ.normal
       | apply BlockQ.ret
       | apply BlockQ.here
       | refine zbt ?_
       | apply LoopS.ret
       | apply LoopS.exit
       | apply LoopF.ret
       | apply LoopF.exit
       | (apply V.reg; (focus ((repeat (first
       | exact RO.nil
       | (apply RO.op; rfl; (simp only [index_SlH EZ lo _ _ _ hT, load_SlH EZ lo _ _ hT, runes_len, h1, h2, nth_runes _ i h1, hsz, i64n i (by omega), go_sem, get_nth, fieldAddrA, Nat.reduceDiv, Nat.reduceMod, Nat.reduceAdd, Nat.reduceSub, Nat.reduceEqDiff, Nat.reduceLeDiff, Nat.reduceLT, Nat.reduceMul, reduceIte, Nat.reducePow, Int.reduceEq, List.toList_toArray]; exact zL); rfl)
       | (apply RO.opg; exact zW; (intro h; (try simp only [Bool.and_eq_true, Bool.not_eq_true', Bool.not_eq_eq_eq_not, Bool.not_true] at h); simp only [h, index_SlH EZ lo _ _ _ hT, load_SlH EZ lo _ _ hT, runes_len, h1, h2, nth_runes _ i h1, hsz, i64n i (by omega), go_sem, get_nth, fieldAddrA, Nat.reduceDiv, Nat.reduceMod, Nat.reduceAdd, Nat.reduceSub, Nat.reduceEqDiff, Nat.reduceLeDiff, Nat.reduceLT, Nat.reduceMul, reduceIte, Nat.reducePow, Int.reduceEq, List.toList_toArray]; exact zL); rfl)
       | (apply RO.call; exact want0 rfl; (simp only [index_SlH EZ lo _ _ _ hT, load_SlH EZ lo _ _ hT, runes_len, h1, h2, nth_runes _ i h1, hsz, i64n i (by omega), go_sem, get_nth, fieldAddrA, Nat.reduceDiv, Nat.reduceMod, Nat.reduceAdd, Nat.reduceSub, Nat.reduceEqDiff, Nat.reduceLeDiff, Nat.reduceLT, Nat.reduceMul, reduceIte, Nat.reducePow, Int.reduceEq, List.toList_toArray]; rfl); (first | (apply refPut_run <;> (exact zD))); rfl)
       | (apply RO.callg; exact zW; (intro h; (try simp only [Bool.and_eq_true, Bool.not_eq_true', Bool.not_eq_eq_eq_not, Bool.not_true] at h); simp only [h, index_SlH EZ lo _ _ _ hT, load_SlH EZ lo _ _ hT, runes_len, h1, h2, nth_runes _ i h1, hsz, i64n i (by omega), go_sem, get_nth, fieldAddrA, Nat.reduceDiv, Nat.reduceMod, Nat.reduceAdd, Nat.reduceSub, Nat.reduceEqDiff, Nat.reduceLeDiff, Nat.reduceLT, Nat.reduceMul, reduceIte, Nat.reducePow, Int.reduceEq, List.toList_toArray]; rfl); (intro h; (try simp only [Bool.and_eq_true, Bool.not_eq_true', Bool.not_eq_eq_eq_not, Bool.not_true] at h); (first | (apply refPut_run <;> (exact zD)))); rfl)
       | (apply RO.no; apply wantNo; exact zW; (first | rfl | (focus (simp only [index_SlH EZ lo _ _ _ hT, load_SlH EZ lo _ _ hT, runes_len, h1, h2, nth_runes _ i h1, hsz, i64n i (by omega), Bool.and_false, Bool.false_and, Bool.not_true, Bool.not_false, decide_true, decide_false, Bool.or_true, Bool.true_or, not_true_eq_false, not_false_eq_true, Bool.and_true, Bool.true_and]; done))); rfl))); done)))
       | (apply V.regd; (focus ((repeat (first
       | exact RO.nil
       | (apply RO.op; rfl; (simp only [index_SlH EZ lo _ _ _ hT, load_SlH EZ lo _ _ hT, runes_len, h1, h2, nth_runes _ i h1, hsz, i64n i (by omega), go_sem, get_nth, fieldAddrA, Nat.reduceDiv, Nat.reduceMod, Nat.reduceAdd, Nat.reduceSub, Nat.reduceEqDiff, Nat.reduceLeDiff, Nat.reduceLT, Nat.reduceMul, reduceIte, Nat.reducePow, Int.reduceEq, List.toList_toArray]; exact zL); rfl)
       | (apply RO.opg; exact zW; (intro h; (try simp only [Bool.and_eq_true, Bool.not_eq_true', Bool.not_eq_eq_eq_not, Bool.not_true] at h); simp only [h, index_SlH EZ lo _ _ _ hT, load_SlH EZ lo _ _ hT, runes_len, h1, h2, nth_runes _ i h1, hsz, i64n i (by omega), go_sem, get_nth, fieldAddrA, Nat.reduceDiv, Nat.reduceMod, Nat.reduceAdd, Nat.reduceSub, Nat.reduceEqDiff, Nat.reduceLeDiff, Nat.reduceLT, Nat.reduceMul, reduceIte, Nat.reducePow, Int.reduceEq, List.toList_toArray]; exact zL); rfl)
       | (apply RO.call; exact want0 rfl; (simp only [index_SlH EZ lo _ _ _ hT, load_SlH EZ lo _ _ hT, runes_len, h1, h2, nth_runes _ i h1, hsz, i64n i (by omega), go_sem, get_nth, fieldAddrA, Nat.reduceDiv, Nat.reduceMod, Nat.reduceAdd, Nat.reduceSub, Nat.reduceEqDiff, Nat.reduceLeDiff, Nat.reduceLT, Nat.reduceMul, reduceIte, Nat.reducePow, Int.reduceEq, List.toList_toArray]; rfl); (first | (apply refPut_run <;> (exact zD))); rfl)
       | (apply RO.callg; exact zW; (intro h; (try simp only [Bool.and_eq_true, Bool.not_eq_true', Bool.not_eq_eq_eq_not, Bool.not_true] at h); simp only [h, index_SlH EZ lo _ _ _ hT, load_SlH EZ lo _ _ hT, runes_len, h1, h2, nth_runes _ i h1, hsz, i64n i (by omega), go_sem, get_nth, fieldAddrA, Nat.reduceDiv, Nat.reduceMod, Nat.reduceAdd, Nat.reduceSub, Nat.reduceEqDiff, Nat.reduceLeDiff, Nat.reduceLT, Nat.reduceMul, reduceIte, Nat.reducePow, Int.reduceEq, List.toList_toArray]; rfl); (intro h; (try simp only [Bool.and_eq_true, Bool.not_eq_true', Bool.not_eq_eq_eq_not, Bool.not_true] at h); (first | (apply refPut_run <;> (exact zD)))); rfl)
       | (apply RO.no; apply wantNo; exact zW; (first | rfl | (focus (simp only [index_SlH EZ lo _ _ _ hT, load_SlH EZ lo _ _ hT, runes_len, h1, h2, nth_runes _ i h1, hsz, i64n i (by omega), Bool.and_false, Bool.false_and, Bool.not_true, Bool.not_false, decide_true, decide_false, Bool.or_true, Bool.true_or, not_true_eq_false, not_false_eq_true, Bool.and_true, Bool.true_and]; done))); rfl))); done)); exact zK; exact zE)
       | (refine zvf (fun h => ?_) (fun h => ?_) <;> (replace h := zB h) <;> (try (exfalso; first | exact h | omega)))
       | (refine zfc Tryz.results87 ?_; (try dsimp only)))
      rw [← str_append, ← utf8_snoc, ← e]
      exact LoopF.again (t.length - (i + 1)) (by rfl) (by omega) ⟨i + 1, _, rfl, rfl, by omega⟩
    · have : i = t.length := by omega
      subst this
      rw [List.take_length]
theorem all_snoc (t : List Int) (c : Int) : (t ++ [c]).all validC = (t.all validC && validC c) := by simp
/-- What numbers tells. -/
def csiNums (t : List Int) : List Int := if t = [] then [] else (csiArgs t).take 8
theorem numbers_wc (lo : Nat) (H : AHeap) (hlo : lo ≤ H.next) (T : AV) (t : List Int) (hT : SlH H 1 T (runes t)) (ht : t.length < 2 ^ 20) (hr : ∀ c ∈ t, -2147483648 ≤ c ∧ c ≤ 2147483647) :
    WC EZ [] lo 58 [T] H fun x H'' => ∃ A l, frzR H'' lo x = .tup [A, .v (.bool (t.all validC))] ∧ Sl 1 A (ints l) ∧ (t.all validC = true → l = csiNums t) := by
  refine zvin Tryz.func58 Tryz.ntmps58 ?_
  repeat' (first
   | apply V.sq
   | apply V.bl
   | apply V.sc
   | apply V.skip
   | apply V.label
   | apply V.ret
   | apply V.exit
   | apply SeqQ.normal
   | apply SeqQ.ret
   | apply SeqQ.exit
   | apply BlockQ.normal
   | apply BlockQ.ret
   | apply BlockQ.here
   | refine zbt ?_
   | apply LoopS.ret
   | apply LoopS.exit
   | apply LoopF.ret
   | apply LoopF.exit
   | (apply V.reg; (focus ((repeat (first
   | exact RO.nil
   | (apply RO.op; rfl; (simp only [len_SlH EZ lo _ _ hT, runes_len, go_sem, get_nth, fieldAddrA, Nat.reduceDiv, Nat.reduceMod, Nat.reduceAdd, Nat.reduceSub, Nat.reduceEqDiff, Nat.reduceLeDiff, Nat.reduceLT, Nat.reduceMul, reduceIte, Nat.reducePow, Int.reduceEq, List.toList_toArray]; exact zL); rfl)
   | (apply RO.opg; exact zW; (intro h; (try simp only [Bool.and_eq_true, Bool.not_eq_true', Bool.not_eq_eq_eq_not, Bool.not_true] at h); simp only [h, len_SlH EZ lo _ _ hT, runes_len, go_sem, get_nth, fieldAddrA, Nat.reduceDiv, Nat.reduceMod, Nat.reduceAdd, Nat.reduceSub, Nat.reduceEqDiff, Nat.reduceLeDiff, Nat.reduceLT, Nat.reduceMul, reduceIte, Nat.reducePow, Int.reduceEq, List.toList_toArray]; exact zL); rfl)
   | (apply RO.call; exact want0 rfl; (simp only [len_SlH EZ lo _ _ hT, runes_len, go_sem, get_nth, fieldAddrA, Nat.reduceDiv, Nat.reduceMod, Nat.reduceAdd, Nat.reduceSub, Nat.reduceEqDiff, Nat.reduceLeDiff, Nat.reduceLT, Nat.reduceMul, reduceIte, Nat.reducePow, Int.reduceEq, List.toList_toArray]; rfl); fail; rfl)
   | (apply RO.callg; exact zW; (intro h; (try simp only [Bool.and_eq_true, Bool.not_eq_true', Bool.not_eq_eq_eq_not, Bool.not_true] at h); simp only [h, len_SlH EZ lo _ _ hT, runes_len, go_sem, get_nth, fieldAddrA, Nat.reduceDiv, Nat.reduceMod, Nat.reduceAdd, Nat.reduceSub, Nat.reduceEqDiff, Nat.reduceLeDiff, Nat.reduceLT, Nat.reduceMul, reduceIte, Nat.reducePow, Int.reduceEq, List.toList_toArray]; rfl); (intro h; (try simp only [Bool.and_eq_true, Bool.not_eq_true', Bool.not_eq_eq_eq_not, Bool.not_true] at h); fail); rfl)
   | (apply RO.no; apply wantNo; exact zW; (first | rfl | (focus (simp only [len_SlH EZ lo _ _ hT, runes_len, Bool.and_false, Bool.false_and, Bool.not_true, Bool.not_false, decide_true, decide_false, Bool.or_true, Bool.true_or, not_true_eq_false, not_false_eq_true, Bool.and_true, Bool.true_and]; done))); rfl))); done)))
   | (apply V.regd; (focus ((repeat (first
   | exact RO.nil
   | (apply RO.op; rfl; (simp only [len_SlH EZ lo _ _ hT, runes_len, go_sem, get_nth, fieldAddrA, Nat.reduceDiv, Nat.reduceMod, Nat.reduceAdd, Nat.reduceSub, Nat.reduceEqDiff, Nat.reduceLeDiff, Nat.reduceLT, Nat.reduceMul, reduceIte, Nat.reducePow, Int.reduceEq, List.toList_toArray]; exact zL); rfl)
   | (apply RO.opg; exact zW; (intro h; (try simp only [Bool.and_eq_true, Bool.not_eq_true', Bool.not_eq_eq_eq_not, Bool.not_true] at h); simp only [h, len_SlH EZ lo _ _ hT, runes_len, go_sem, get_nth, fieldAddrA, Nat.reduceDiv, Nat.reduceMod, Nat.reduceAdd, Nat.reduceSub, Nat.reduceEqDiff, Nat.reduceLeDiff, Nat.reduceLT, Nat.reduceMul, reduceIte, Nat.reducePow, Int.reduceEq, List.toList_toArray]; exact zL); rfl)
   | (apply RO.call; exact want0 rfl; (simp only [len_SlH EZ lo _ _ hT, runes_len, go_sem, get_nth, fieldAddrA, Nat.reduceDiv, Nat.reduceMod, Nat.reduceAdd, Nat.reduceSub, Nat.reduceEqDiff, Nat.reduceLeDiff, Nat.reduceLT, Nat.reduceMul, reduceIte, Nat.reducePow, Int.reduceEq, List.toList_toArray]; rfl); fail; rfl)
   | (apply RO.callg; exact zW; (intro h; (try simp only [Bool.and_eq_true, Bool.not_eq_true', Bool.not_eq_eq_eq_not, Bool.not_true] at h); simp only [h, len_SlH EZ lo _ _ hT, runes_len, go_sem, get_nth, fieldAddrA, Nat.reduceDiv, Nat.reduceMod, Nat.reduceAdd, Nat.reduceSub, Nat.reduceEqDiff, Nat.reduceLeDiff, Nat.reduceLT, Nat.reduceMul, reduceIte, Nat.reducePow, Int.reduceEq, List.toList_toArray]; rfl); (intro h; (try simp only [Bool.and_eq_true, Bool.not_eq_true', Bool.not_eq_eq_eq_not, Bool.not_true] at h); fail); rfl)
   | (apply RO.no; apply wantNo; exact zW; (first | rfl | (focus (simp only [len_SlH EZ lo _ _ hT, runes_len, Bool.and_false, Bool.false_and, Bool.not_true, Bool.not_false, decide_true, decide_false, Bool.or_true, Bool.true_or, not_true_eq_false, not_false_eq_true, Bool.and_true, Bool.true_and]; done))); rfl))); done)); exact zK; exact zE)
   | (refine zvf (fun h => ?_) (fun h => ?_) <;> (replace h := zB h) <;> (try (exfalso; first | exact h | omega)))
   | (refine zfd Tryz.results58 ?_; (try dsimp only)))
  · have : t = [] := List.length_eq_zero_iff.1 (by omega)
    subst this
    exact ⟨nilA, [], rfl, .inr ⟨rfl, .inr rfl⟩, fun _ => rfl⟩
  · apply V.lpS [5, 4, 2, 3, 6, 11, 12, 13, 14, 15, 16, 17, 18, 19, 20, 21, 22, 23, 24, 25, 26, 27, 28, 29, 30, 31, 32, 33, 34, 35, 36, 37, 38, 39, 40, 41, 42, 43, 44, 45, 46, 47, 48, 49, 50, 51, 52, 53, 54, 55, 56, 57] (fun m xs H' => ∃ (i e : Nat) (g : _), xs = .v (.int .i64 i) :: .os H.next e 0 (csiArgs (t.take i)).length :: g ∧ m = t.length - i ∧ i ≤ t.length ∧ (t.take i).all validC = true ∧ Turn NoF H H' ∧ H.next < H'.next ∧ H'.get H.next = some ⟨3, 1, e, ints (csiArgs (t.take i)), none⟩) t.length
    focus (intro xs; simp only [putMany, set2, Nat.reduceAdd, Nat.reduceDiv, Nat.reduceMod, nth_zero, nth_succ, List.set_cons_zero, List.set_cons_succ]; rfl)
    focus (first | rfl | simp only [readMany, nth_zero, nth_succ, Nat.reduceDiv, Nat.reduceMod])
    · exact ⟨0, 0, _, rfl, rfl, Nat.zero_le _, rfl, (Turn.refl _ _).push _, Nat.lt_succ_self _, by rw [get_push, if_pos rfl]; rfl⟩
    · rintro m xs H' ⟨i, e, g, rfl, rfl, hi, hv, hTu, hnx, hb⟩
      have hT' := hT.turn hTu (fun k _ h => h)
      repeat' (first
       | apply V.sq
       | apply V.bl
       | apply V.sc
       | apply V.skip
       | apply V.label
       | apply V.ret
       | apply V.exit
       | apply SeqQ.normal
       | apply SeqQ.ret
       | apply SeqQ.exit
       | apply BlockQ.normal
       | apply BlockQ.ret
       | apply BlockQ.here
       | refine zbt ?_
       | apply LoopS.ret
       | apply LoopS.exit
       | apply LoopF.ret
       | apply LoopF.exit
       | (apply V.reg; (focus ((repeat (first
       | exact RO.nil
       | (apply RO.op; rfl; (simp only [len_SlH EZ lo _ _ hT', runes_len, go_sem, get_nth, fieldAddrA, Nat.reduceDiv, Nat.reduceMod, Nat.reduceAdd, Nat.reduceSub, Nat.reduceEqDiff, Nat.reduceLeDiff, Nat.reduceLT, Nat.reduceMul, reduceIte, Nat.reducePow, Int.reduceEq, List.toList_toArray]; exact zL); rfl)
       | (apply RO.opg; exact zW; (intro h; (try simp only [Bool.and_eq_true, Bool.not_eq_true', Bool.not_eq_eq_eq_not, Bool.not_true] at h); simp only [h, len_SlH EZ lo _ _ hT', runes_len, go_sem, get_nth, fieldAddrA, Nat.reduceDiv, Nat.reduceMod, Nat.reduceAdd, Nat.reduceSub, Nat.reduceEqDiff, Nat.reduceLeDiff, Nat.reduceLT, Nat.reduceMul, reduceIte, Nat.reducePow, Int.reduceEq, List.toList_toArray]; exact zL); rfl)
       | (apply RO.call; exact want0 rfl; (simp only [len_SlH EZ lo _ _ hT', runes_len, go_sem, get_nth, fieldAddrA, Nat.reduceDiv, Nat.reduceMod, Nat.reduceAdd, Nat.reduceSub, Nat.reduceEqDiff, Nat.reduceLeDiff, Nat.reduceLT, Nat.reduceMul, reduceIte, Nat.reducePow, Int.reduceEq, List.toList_toArray]; rfl); fail; rfl)
       | (apply RO.callg; exact zW; (intro h; (try simp only [Bool.and_eq_true, Bool.not_eq_true', Bool.not_eq_eq_eq_not, Bool.not_true] at h); simp only [h, len_SlH EZ lo _ _ hT', runes_len, go_sem, get_nth, fieldAddrA, Nat.reduceDiv, Nat.reduceMod, Nat.reduceAdd, Nat.reduceSub, Nat.reduceEqDiff, Nat.reduceLeDiff, Nat.reduceLT, Nat.reduceMul, reduceIte, Nat.reducePow, Int.reduceEq, List.toList_toArray]; rfl); (intro h; (try simp only [Bool.and_eq_true, Bool.not_eq_true', Bool.not_eq_eq_eq_not, Bool.not_true] at h); fail); rfl)
       | (apply RO.no; apply wantNo; exact zW; (first | rfl | (focus (simp only [len_SlH EZ lo _ _ hT', runes_len, Bool.and_false, Bool.false_and, Bool.not_true, Bool.not_false, decide_true, decide_false, Bool.or_true, Bool.true_or, not_true_eq_false, not_false_eq_true, Bool.and_true, Bool.true_and]; done))); rfl))); done)))
       | (apply V.regd; (focus ((repeat (first
       | exact RO.nil
       | (apply RO.op; rfl; (simp only [len_SlH EZ lo _ _ hT', runes_len, go_sem, get_nth, fieldAddrA, Nat.reduceDiv, Nat.reduceMod, Nat.reduceAdd, Nat.reduceSub, Nat.reduceEqDiff, Nat.reduceLeDiff, Nat.reduceLT, Nat.reduceMul, reduceIte, Nat.reducePow, Int.reduceEq, List.toList_toArray]; exact zL); rfl)
       | (apply RO.opg; exact zW; (intro h; (try simp only [Bool.and_eq_true, Bool.not_eq_true', Bool.not_eq_eq_eq_not, Bool.not_true] at h); simp only [h, len_SlH EZ lo _ _ hT', runes_len, go_sem, get_nth, fieldAddrA, Nat.reduceDiv, Nat.reduceMod, Nat.reduceAdd, Nat.reduceSub, Nat.reduceEqDiff, Nat.reduceLeDiff, Nat.reduceLT, Nat.reduceMul, reduceIte, Nat.reducePow, Int.reduceEq, List.toList_toArray]; exact zL); rfl)
       | (apply RO.call; exact want0 rfl; (simp only [len_SlH EZ lo _ _ hT', runes_len, go_sem, get_nth, fieldAddrA, Nat.reduceDiv, Nat.reduceMod, Nat.reduceAdd, Nat.reduceSub, Nat.reduceEqDiff, Nat.reduceLeDiff, Nat.reduceLT, Nat.reduceMul, reduceIte, Nat.reducePow, Int.reduceEq, List.toList_toArray]; rfl); fail; rfl)
       | (apply RO.callg; exact zW; (intro h; (try simp only [Bool.and_eq_true, Bool.not_eq_true', Bool.not_eq_eq_eq_not, Bool.not_true] at h); simp only [h, len_SlH EZ lo _ _ hT', runes_len, go_sem, get_nth, fieldAddrA, Nat.reduceDiv, Nat.reduceMod, Nat.reduceAdd, Nat.reduceSub, Nat.reduceEqDiff, Nat.reduceLeDiff, Nat.reduceLT, Nat.reduceMul, reduceIte, Nat.reducePow, Int.reduceEq, List.toList_toArray]; rfl); (intro h; (try simp only [Bool.and_eq_true, Bool.not_eq_true', Bool.not_eq_eq_eq_not, Bool.not_true] at h); fail); rfl)
       | (apply RO.no; apply wantNo; exact zW; (first | rfl | (focus (simp only [len_SlH EZ lo _ _ hT', runes_len, Bool.and_false, Bool.false_and, Bool.not_true, Bool.not_false, decide_true, decide_false, Bool.or_true, Bool.true_or, not_true_eq_false, not_false_eq_true, Bool.and_true, Bool.true_and]; done))); rfl))); done)); exact zK; exact zE)
       | (refine zvf (fun h => ?_) (fun h => ?_) <;> (replace h := zB h) <;> (try (exfalso; first | exact h | omega)))
       | (refine zfd Tryz.results58 ?_; (try dsimp only)))
      · have h1 : i < t.length := by omega
        have h2 := h
        have hpos := csiArgs_pos (t.take i)
        have hlen := csiArgs_len (t.take i)
        rw [List.length_take] at hlen
        have hw : IntKind.i64.wrap (((csiArgs (t.take i)).length : Int) - 1) = (((csiArgs (t.take i)).length - 1 : Nat) : Int) := by rw [IntWalk.i64_in _ (by omega)]; omega
        have hL : (csiArgs (t.take i)).length - 1 < (csiArgs (t.take i)).length := by omega
        have hL' : (((csiArgs (t.take i)).length - 1 : Nat) : Int) < ((csiArgs (t.take i)).length : Int) := by omega
        have et : t.take (i + 1) = t.take i ++ [t.getD i 0] := by
          rw [List.take_add_one, List.getD_eq_getElem?_getD, List.getElem?_eq_getElem h1]; rfl
        have hc := hr (t.getD i 0) (by rw [List.getD_eq_getElem?_getD, List.getElem?_eq_getElem h1]; exact List.getElem_mem h1)
        have hne : ¬ H'.next = H.next := by omega
        obtain ⟨tr, htr⟩ := append_os EZ lo (t := 25) (H := H'.push ⟨3, 1, 0, [[.v (.int .i64 0)]], none⟩) (n := H.next) (e := e) (off := 0) (len := (csiArgs (t.take i)).length) (x := .os H'.next 0 0 1) (es := [[.v (.int .i64 0)]]) (elem := 3) (bytes := 8) (size := 1)
          (by kernel_rfl) (by rw [get_push, if_neg hne]; exact hb) ⟨rfl, rfl, by rw [ints_len]; simp, rfl, rfl⟩ (.inr ⟨H'.next, 0, 0, _, rfl, Nat.lt_succ_self _, by rw [get_push, if_pos rfl], rfl, rfl, rfl, by simp, rfl⟩) (fun m' e' off' len' h => by cases h; exact hne ∘ Eq.symm) (by simp) (by show ((csiArgs (t.take i)).length + 1) * 8 ≤ 140737488355328; omega) hlo
        have hi1 := i64n i (by omega)
        repeat' (first
         | apply V.sq
         | apply V.bl
         | apply V.sc
         | apply V.skip
         | apply V.label
         | apply V.ret
         | apply V.exit
         | apply SeqQ.normal
         | apply SeqQ.ret
         | apply SeqQ.exit
         | apply BlockQ.normal
         | apply BlockQ.ret
         | apply BlockQ.here
         | refine zbt ?_
         | apply LoopS.ret
         | apply LoopS.exit
         | apply LoopF.ret
         | apply LoopF.exit
         | (apply V.reg; (focus ((repeat (first
         | exact RO.nil
         | (apply RO.op; rfl; (simp only [len_SlH EZ lo _ _ hT', index_SlH EZ lo _ _ _ hT', load_SlH EZ lo _ _ hT', runes_len, ints_len, take_ints, h1, h2, nth_runes _ i h1, hb, hw, hL, hL', nth_ints _ _ hL, htr, hi1, hlo, hne, go_sem, get_nth, fieldAddrA, Nat.reduceDiv, Nat.reduceMod, Nat.reduceAdd, Nat.reduceSub, Nat.reduceEqDiff, Nat.reduceLeDiff, Nat.reduceLT, Nat.reduceMul, reduceIte, Nat.reducePow, Int.reduceEq, List.toList_toArray]; exact zL); rfl)
         | (apply RO.opg; exact zW; (intro h; (try simp only [Bool.and_eq_true, Bool.not_eq_true', Bool.not_eq_eq_eq_not, Bool.not_true] at h); simp only [h, len_SlH EZ lo _ _ hT', index_SlH EZ lo _ _ _ hT', load_SlH EZ lo _ _ hT', runes_len, ints_len, take_ints, h1, h2, nth_runes _ i h1, hb, hw, hL, hL', nth_ints _ _ hL, htr, hi1, hlo, hne, go_sem, get_nth, fieldAddrA, Nat.reduceDiv, Nat.reduceMod, Nat.reduceAdd, Nat.reduceSub, Nat.reduceEqDiff, Nat.reduceLeDiff, Nat.reduceLT, Nat.reduceMul, reduceIte, Nat.reducePow, Int.reduceEq, List.toList_toArray]; exact zL); rfl)
         | (apply RO.call; exact want0 rfl; (simp only [len_SlH EZ lo _ _ hT', index_SlH EZ lo _ _ _ hT', load_SlH EZ lo _ _ hT', runes_len, ints_len, take_ints, h1, h2, nth_runes _ i h1, hb, hw, hL, hL', nth_ints _ _ hL, htr, hi1, hlo, hne, go_sem, get_nth, fieldAddrA, Nat.reduceDiv, Nat.reduceMod, Nat.reduceAdd, Nat.reduceSub, Nat.reduceEqDiff, Nat.reduceLeDiff, Nat.reduceLT, Nat.reduceMul, reduceIte, Nat.reducePow, Int.reduceEq, List.toList_toArray]; rfl); fail; rfl)
         | (apply RO.callg; exact zW; (intro h; (try simp only [Bool.and_eq_true, Bool.not_eq_true', Bool.not_eq_eq_eq_not, Bool.not_true] at h); simp only [h, len_SlH EZ lo _ _ hT', index_SlH EZ lo _ _ _ hT', load_SlH EZ lo _ _ hT', runes_len, ints_len, take_ints, h1, h2, nth_runes _ i h1, hb, hw, hL, hL', nth_ints _ _ hL, htr, hi1, hlo, hne, go_sem, get_nth, fieldAddrA, Nat.reduceDiv, Nat.reduceMod, Nat.reduceAdd, Nat.reduceSub, Nat.reduceEqDiff, Nat.reduceLeDiff, Nat.reduceLT, Nat.reduceMul, reduceIte, Nat.reducePow, Int.reduceEq, List.toList_toArray]; rfl); (intro h; (try simp only [Bool.and_eq_true, Bool.not_eq_true', Bool.not_eq_eq_eq_not, Bool.not_true] at h); fail); rfl)
         | (apply RO.no; apply wantNo; exact zW; (first | rfl | (focus (simp only [len_SlH EZ lo _ _ hT', index_SlH EZ lo _ _ _ hT', load_SlH EZ lo _ _ hT', runes_len, ints_len, take_ints, h1, h2, nth_runes _ i h1, hb, hw, hL, hL', nth_ints _ _ hL, htr, hi1, hlo, hne, Bool.and_false, Bool.false_and, Bool.not_true, Bool.not_false, decide_true, decide_false, Bool.or_true, Bool.true_or, not_true_eq_false, not_false_eq_true, Bool.and_true, Bool.true_and]; done))); rfl))); done)))
         | (apply V.regd; (focus ((repeat (first
         | exact RO.nil
         | (apply RO.op; rfl; (simp only [len_SlH EZ lo _ _ hT', index_SlH EZ lo _ _ _ hT', load_SlH EZ lo _ _ hT', runes_len, ints_len, take_ints, h1, h2, nth_runes _ i h1, hb, hw, hL, hL', nth_ints _ _ hL, htr, hi1, hlo, hne, go_sem, get_nth, fieldAddrA, Nat.reduceDiv, Nat.reduceMod, Nat.reduceAdd, Nat.reduceSub, Nat.reduceEqDiff, Nat.reduceLeDiff, Nat.reduceLT, Nat.reduceMul, reduceIte, Nat.reducePow, Int.reduceEq, List.toList_toArray]; exact zL); rfl)
         | (apply RO.opg; exact zW; (intro h; (try simp only [Bool.and_eq_true, Bool.not_eq_true', Bool.not_eq_eq_eq_not, Bool.not_true] at h); simp only [h, len_SlH EZ lo _ _ hT', index_SlH EZ lo _ _ _ hT', load_SlH EZ lo _ _ hT', runes_len, ints_len, take_ints, h1, h2, nth_runes _ i h1, hb, hw, hL, hL', nth_ints _ _ hL, htr, hi1, hlo, hne, go_sem, get_nth, fieldAddrA, Nat.reduceDiv, Nat.reduceMod, Nat.reduceAdd, Nat.reduceSub, Nat.reduceEqDiff, Nat.reduceLeDiff, Nat.reduceLT, Nat.reduceMul, reduceIte, Nat.reducePow, Int.reduceEq, List.toList_toArray]; exact zL); rfl)
         | (apply RO.call; exact want0 rfl; (simp only [len_SlH EZ lo _ _ hT', index_SlH EZ lo _ _ _ hT', load_SlH EZ lo _ _ hT', runes_len, ints_len, take_ints, h1, h2, nth_runes _ i h1, hb, hw, hL, hL', nth_ints _ _ hL, htr, hi1, hlo, hne, go_sem, get_nth, fieldAddrA, Nat.reduceDiv, Nat.reduceMod, Nat.reduceAdd, Nat.reduceSub, Nat.reduceEqDiff, Nat.reduceLeDiff, Nat.reduceLT, Nat.reduceMul, reduceIte, Nat.reducePow, Int.reduceEq, List.toList_toArray]; rfl); fail; rfl)
         | (apply RO.callg; exact zW; (intro h; (try simp only [Bool.and_eq_true, Bool.not_eq_true', Bool.not_eq_eq_eq_not, Bool.not_true] at h); simp only [h, len_SlH EZ lo _ _ hT', index_SlH EZ lo _ _ _ hT', load_SlH EZ lo _ _ hT', runes_len, ints_len, take_ints, h1, h2, nth_runes _ i h1, hb, hw, hL, hL', nth_ints _ _ hL, htr, hi1, hlo, hne, go_sem, get_nth, fieldAddrA, Nat.reduceDiv, Nat.reduceMod, Nat.reduceAdd, Nat.reduceSub, Nat.reduceEqDiff, Nat.reduceLeDiff, Nat.reduceLT, Nat.reduceMul, reduceIte, Nat.reducePow, Int.reduceEq, List.toList_toArray]; rfl); (intro h; (try simp only [Bool.and_eq_true, Bool.not_eq_true', Bool.not_eq_eq_eq_not, Bool.not_true] at h); fail); rfl)
         | (apply RO.no; apply wantNo; exact zW; (first | rfl | (focus (simp only [len_SlH EZ lo _ _ hT', index_SlH EZ lo _ _ _ hT', load_SlH EZ lo _ _ hT', runes_len, ints_len, take_ints, h1, h2, nth_runes _ i h1, hb, hw, hL, hL', nth_ints _ _ hL, htr, hi1, hlo, hne, Bool.and_false, Bool.false_and, Bool.not_true, Bool.not_false, decide_true, decide_false, Bool.or_true, Bool.true_or, not_true_eq_false, not_false_eq_true, Bool.and_true, Bool.true_and]; done))); rfl))); done)); exact zK; exact zE)
         | (refine zvf (fun h => ?_) (fun h => ?_) <;> (replace h := zB h) <;> (try (exfalso; first | exact h | omega)))
         | (refine zfd Tryz.results58 ?_; (try dsimp only)))
        · have hs : csiArgs (t.take (i + 1)) = csiArgs (t.take i) ++ [0] := by rw [et, csiArgs_snoc, stepArgs, if_pos (by assumption)]
          have hvc : validC (t.getD i 0) = true := decide_eq_true (.inl (by assumption))
          have hl : (csiArgs (t.take i)).length + 1 = (csiArgs (t.take (i + 1))).length := by rw [hs, List.length_append]; rfl
          rw [hl]
          refine LoopS.again (t.length - (i + 1)) (by rfl) (by omega) ⟨i + 1, e + 1, _, rfl, rfl, by omega, by rw [et, all_snoc, hv, hvc]; rfl, ⟨by simp [next_push, next_set]; omega, hTu.js, fun k hk hf => ?_⟩, Nat.lt_succ_of_lt hnx, ?_⟩
          · rw [get_push, next_set, if_neg (by omega), get_set, if_neg (by omega)]; exact hTu.keep k hk hf
          · rw [get_push, next_set, if_neg hne, get_set, if_pos rfl, hs, ints_append]; rfl
        · have hd : 48 ≤ t.getD i 0 ∧ t.getD i 0 ≤ 57 := by assumption
          have hg : 0 ≤ (csiArgs (t.take i)).getD ((csiArgs (t.take i)).length - 1) 0 ∧ (csiArgs (t.take i)).getD ((csiArgs (t.take i)).length - 1) 0 ≤ 9999 := by
            rw [List.getD_eq_getElem?_getD, List.getElem?_eq_getElem hL]
            exact csiArgs_bd _ _ (List.getElem_mem hL)
          have hs : csiArgs (t.take (i + 1)) = (csiArgs (t.take i)).set ((csiArgs (t.take i)).length - 1) (min (10 * (csiArgs (t.take i)).getD ((csiArgs (t.take i)).length - 1) 0 + (t.getD i 0 - 48)) 9999) := by
            rw [et, csiArgs_snoc, stepArgs, if_neg (by omega), if_pos hd]
          have hvv : min (IntKind.i64.wrap (IntKind.i64.wrap ((csiArgs (t.take i)).getD ((csiArgs (t.take i)).length - 1) 0 * 10) + IntKind.i64.wrap (IntKind.i32.wrap (t.getD i 0 - 48)))) 9999 = min (10 * (csiArgs (t.take i)).getD ((csiArgs (t.take i)).length - 1) 0 + (t.getD i 0 - 48)) 9999 := by
            rw [IntWalk.i64_in (_ * 10) (by omega), IntWalk.i32_in (t.getD i 0 - 48) (by omega), IntWalk.i64_in (t.getD i 0 - 48) (by omega), IntWalk.i64_in _ (by omega), Int.mul_comm]
          have hvc : validC (t.getD i 0) = true := decide_eq_true (.inr hd)
          have hl : (csiArgs (t.take i)).length = (csiArgs (t.take (i + 1))).length := by rw [hs, List.length_set]
          rw [hvv, set_ints, ← hs, hl]
          refine LoopS.again (t.length - (i + 1)) (by rfl) (by omega) ⟨i + 1, e, _, rfl, rfl, by omega, by rw [et, all_snoc, hv, hvc]; rfl, ⟨hTu.next, hTu.js, fun k hk hf => ?_⟩, hnx, ?_⟩
          · rw [get_set, if_neg (by omega)]; exact hTu.keep k hk hf
          · rw [get_set, if_pos rfl]
        · have hvc : validC (t.getD i 0) = false := decide_eq_false (by omega)
          have ha : t.all validC = false := by
            rw [← Bool.not_eq_true, List.all_eq_true]
            intro hall
            have := hall (t.getD i 0) (by rw [List.getD_eq_getElem?_getD, List.getElem?_eq_getElem h1]; exact List.getElem_mem h1)
            rw [hvc] at this; cases this
          exact ⟨nilA, [], by rw [ha]; rfl, .inr ⟨rfl, .inr rfl⟩, fun h => by rw [ha] at h; cases h⟩
      · have : i = t.length := by omega
        subst this
        rw [List.take_length] at *
        have hsl := slice_SlH EZ lo (H := H') (t := 25) (size := 1) (x := .os H.next e 0 (csiArgs t).length) (es := ints (csiArgs t)) (by kernel_rfl) (.inr ⟨H.next, e, 0, _, by rw [ints_len], hnx, hb, rfl, rfl, rfl, by simp, by simp⟩) none (some (.v (.int .i64 (min ((csiArgs t).length : Int) 8)))) (l := 0) (r := min (csiArgs t).length 8) rfl (by rw [bound_some _ _ _ (by omega)]; congr 1; omega) (Nat.zero_le _) (by rw [ints_len]; omega)
        repeat' (first
         | apply V.sq
         | apply V.bl
         | apply V.sc
         | apply V.skip
         | apply V.label
         | apply V.ret
         | apply V.exit
         | apply SeqQ.normal
         | apply SeqQ.ret
         | apply SeqQ.exit
         | apply BlockQ.normal
         | apply BlockQ.ret
         | apply BlockQ.here
         | refine zbt ?_
         | apply LoopS.ret
         | apply LoopS.exit
         | apply LoopF.ret
         | apply LoopF.exit
         | (apply V.reg; (focus ((repeat (first
         | exact RO.nil
         | (apply RO.op; rfl; (simp only [hb, ints_len, take_ints, hsl, go_sem, get_nth, fieldAddrA, Nat.reduceDiv, Nat.reduceMod, Nat.reduceAdd, Nat.reduceSub, Nat.reduceEqDiff, Nat.reduceLeDiff, Nat.reduceLT, Nat.reduceMul, reduceIte, Nat.reducePow, Int.reduceEq, List.toList_toArray]; exact zL); rfl)
         | (apply RO.opg; exact zW; (intro h; (try simp only [Bool.and_eq_true, Bool.not_eq_true', Bool.not_eq_eq_eq_not, Bool.not_true] at h); simp only [h, hb, ints_len, take_ints, hsl, go_sem, get_nth, fieldAddrA, Nat.reduceDiv, Nat.reduceMod, Nat.reduceAdd, Nat.reduceSub, Nat.reduceEqDiff, Nat.reduceLeDiff, Nat.reduceLT, Nat.reduceMul, reduceIte, Nat.reducePow, Int.reduceEq, List.toList_toArray]; exact zL); rfl)
         | (apply RO.call; exact want0 rfl; (simp only [hb, ints_len, take_ints, hsl, go_sem, get_nth, fieldAddrA, Nat.reduceDiv, Nat.reduceMod, Nat.reduceAdd, Nat.reduceSub, Nat.reduceEqDiff, Nat.reduceLeDiff, Nat.reduceLT, Nat.reduceMul, reduceIte, Nat.reducePow, Int.reduceEq, List.toList_toArray]; rfl); fail; rfl)
         | (apply RO.callg; exact zW; (intro h; (try simp only [Bool.and_eq_true, Bool.not_eq_true', Bool.not_eq_eq_eq_not, Bool.not_true] at h); simp only [h, hb, ints_len, take_ints, hsl, go_sem, get_nth, fieldAddrA, Nat.reduceDiv, Nat.reduceMod, Nat.reduceAdd, Nat.reduceSub, Nat.reduceEqDiff, Nat.reduceLeDiff, Nat.reduceLT, Nat.reduceMul, reduceIte, Nat.reducePow, Int.reduceEq, List.toList_toArray]; rfl); (intro h; (try simp only [Bool.and_eq_true, Bool.not_eq_true', Bool.not_eq_eq_eq_not, Bool.not_true] at h); fail); rfl)
         | (apply RO.no; apply wantNo; exact zW; (first | rfl | (focus (simp only [hb, ints_len, take_ints, hsl, Bool.and_false, Bool.false_and, Bool.not_true, Bool.not_false, decide_true, decide_false, Bool.or_true, Bool.true_or, not_true_eq_false, not_false_eq_true, Bool.and_true, Bool.true_and]; done))); rfl))); done)))
         | (apply V.regd; (focus ((repeat (first
         | exact RO.nil
         | (apply RO.op; rfl; (simp only [hb, ints_len, take_ints, hsl, go_sem, get_nth, fieldAddrA, Nat.reduceDiv, Nat.reduceMod, Nat.reduceAdd, Nat.reduceSub, Nat.reduceEqDiff, Nat.reduceLeDiff, Nat.reduceLT, Nat.reduceMul, reduceIte, Nat.reducePow, Int.reduceEq, List.toList_toArray]; exact zL); rfl)
         | (apply RO.opg; exact zW; (intro h; (try simp only [Bool.and_eq_true, Bool.not_eq_true', Bool.not_eq_eq_eq_not, Bool.not_true] at h); simp only [h, hb, ints_len, take_ints, hsl, go_sem, get_nth, fieldAddrA, Nat.reduceDiv, Nat.reduceMod, Nat.reduceAdd, Nat.reduceSub, Nat.reduceEqDiff, Nat.reduceLeDiff, Nat.reduceLT, Nat.reduceMul, reduceIte, Nat.reducePow, Int.reduceEq, List.toList_toArray]; exact zL); rfl)
         | (apply RO.call; exact want0 rfl; (simp only [hb, ints_len, take_ints, hsl, go_sem, get_nth, fieldAddrA, Nat.reduceDiv, Nat.reduceMod, Nat.reduceAdd, Nat.reduceSub, Nat.reduceEqDiff, Nat.reduceLeDiff, Nat.reduceLT, Nat.reduceMul, reduceIte, Nat.reducePow, Int.reduceEq, List.toList_toArray]; rfl); fail; rfl)
         | (apply RO.callg; exact zW; (intro h; (try simp only [Bool.and_eq_true, Bool.not_eq_true', Bool.not_eq_eq_eq_not, Bool.not_true] at h); simp only [h, hb, ints_len, take_ints, hsl, go_sem, get_nth, fieldAddrA, Nat.reduceDiv, Nat.reduceMod, Nat.reduceAdd, Nat.reduceSub, Nat.reduceEqDiff, Nat.reduceLeDiff, Nat.reduceLT, Nat.reduceMul, reduceIte, Nat.reducePow, Int.reduceEq, List.toList_toArray]; rfl); (intro h; (try simp only [Bool.and_eq_true, Bool.not_eq_true', Bool.not_eq_eq_eq_not, Bool.not_true] at h); fail); rfl)
         | (apply RO.no; apply wantNo; exact zW; (first | rfl | (focus (simp only [hb, ints_len, take_ints, hsl, Bool.and_false, Bool.false_and, Bool.not_true, Bool.not_false, decide_true, decide_false, Bool.or_true, Bool.true_or, not_true_eq_false, not_false_eq_true, Bool.and_true, Bool.true_and]; done))); rfl))); done)); exact zK; exact zE)
         | (refine zvf (fun h => ?_) (fun h => ?_) <;> (replace h := zB h) <;> (try (exfalso; first | exact h | omega)))
         | (refine zfd Tryz.results58 ?_; (try dsimp only)))
        have hnn : t ≠ [] := by rintro rfl; simp at *
        refine ⟨.sl 1 (ints (csiNums t)), _, ?_, .inl rfl, fun _ => rfl⟩
        rw [hv]
        have e2 : ((ints (csiArgs t)).drop (0 + 0)).take (min (csiArgs t).length 8 - 0) = ints (csiNums t) := by
          rw [csiNums, if_neg hnn]
          simp only [ints, Nat.zero_add, List.drop_zero, Nat.sub_zero, ← List.map_take]
          congr 1
          rw [Nat.min_comm, ← List.take_eq_take_min]
        show AV.tup [frzR1 H' lo (.os H.next e (0 + 0) (min (csiArgs t).length 8 - 0)), frzR1 H' lo (.v (.bool true))] = _
        rw [frzR1_os H' lo hlo hb rfl rfl (by rw [ints_len]; omega) Nat.zero_lt_one (FlatE.map (fun a x hx => by simp at hx; subst hx; rfl) _), e2]
        rfl
end
end Go.Am
