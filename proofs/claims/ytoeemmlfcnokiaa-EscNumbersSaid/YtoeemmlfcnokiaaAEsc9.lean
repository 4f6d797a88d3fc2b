/- EscNumbers: numbers of a CSI, as many and as great as they come. -/
import Derived.Test.YtoeemmlfcnokiaaAEsc6
set_option linter.all false
set_option linter.deprecated false
namespace Go.Am
open Go.Proofs
set_option maxRecDepth 8000
set_option maxHeartbeats 2000000
section
variable {ys : List (Nat × LRec)} {lo : Nat} {H : AHeap}
def numOf (x : Int) : Int := max 0 (x.tmod 1000000)
def E10 : List Int := [10000000, 1000000, 100000, 10000, 1000, 100, 10, 1]
def D10 (k : Nat) : Int := if k < 7 then E10.getD (k + 1) 0 else 0
theorem D10_facts : ∀ k, k < 7 → 1 ≤ D10 k ∧ D10 k ≤ 1000000 ∧ E10.getD k 0 = D10 k * 10 ∧ E10.getD (k + 1) 0 = D10 k ∧ (D10 k).tdiv 10 = D10 (k + 1) := by decide
theorem stepArgs_digit (A : List Int) (v r : Int) (h : 48 ≤ r ∧ r ≤ 57) : stepArgs (A ++ [v]) r = A ++ [min (10 * v + (r - 48)) 9999] := by
  have hl : (A ++ [v]).length - 1 = A.length := by simp
  rw [stepArgs, if_neg (by omega), if_pos h, hl]
  have : (A ++ [v]).getD A.length 0 = v := by simp
  rw [this]
  simp
theorem edd (n d : Int) (hd : 1 ≤ d) : n / (d * 10) = n / d / 10 := by
  rw [Int.ediv_ediv, if_neg (by omega), Int.sub_zero]
theorem digit_min (n d : Int) (hd : 1 ≤ d) (hn : 0 ≤ n) : min (10 * min (n / (d * 10)) 9999 + (n / d % 10)) 9999 = min (n / d) 9999 := by
  rw [edd n d hd]
  omega
theorem put_digit (t : List Int) (r : Int) (h : r = 59 ∨ 48 ≤ r ∧ r ≤ 57) : put 2 t r = (2, t ++ [r], none) := by
  rw [put_two, if_neg (by omega), if_neg (by omega), if_neg (by omega)]
theorem EscNumbers_wc (A0 : AV) (l0 : List Int) (hA0 : Sl 1 A0 (ints l0)) (hr0 : ∀ c ∈ l0, -9223372036854775808 ≤ c ∧ c ≤ 9223372036854775807) (c : Int) (hc : -2147483648 ≤ c ∧ c ≤ 2147483647) : WC EA [] 0 4 [A0, .v (.int .i32 c)] .empty fun x _ => x = .v (.bool true) := by
  have hs0 : ∀ H, SlH H 1 A0 (ints l0) := fun H => .inl hA0
  have hm0 : min (l0.length : Int) 12 = ((min l0.length 12 : Nat) : Int) := by omega
  have hsl := fun H => slice_SlH EA 0 (H := H) (t := 25) (size := 1) (by kernel_rfl) (hs0 H) none (some (.v (.int .i64 ((min l0.length 12 : Nat) : Int)))) (l := 0) (r := min l0.length 12) rfl (by rw [bound_some _ _ _ (by omega), Int.toNat_natCast]) (Nat.zero_le _) (by rw [ints_len]; omega)
  have hB0 := cutA_Sl (x := A0) (es := ints l0) (lo := 0) (hi := min l0.length 12) hA0
  have hBl : ((ints l0).drop 0).take (min l0.length 12 - 0) = ints (l0.take 12) := by
    simp only [ints, List.drop_zero, Nat.sub_zero, ← List.map_take]
    congr 1
    rw [Nat.min_comm, ← List.take_eq_take_min]
  rw [hBl] at hB0
  generalize cutA A0 0 (min l0.length 12) = B at hsl hB0
  generalize hl : l0.take 12 = l at hB0
  have hl12 : l.length ≤ 12 := by rw [← hl, List.length_take]; omega
  have hrl : ∀ c ∈ l, -9223372036854775808 ≤ c ∧ c ≤ 9223372036854775807 := fun c h => hr0 c (by rw [← hl] at h; exact List.mem_of_mem_take h)
  have hsB : ∀ H, SlH H 1 B (ints l) := fun H => .inl hB0
  have f1 := Int.tmod_lt_of_pos c (show (0 : Int) < 63 by decide)
  have f2 := Int.lt_tmod_of_pos c (show (0 : Int) < 63 by decide)
  have f3 := IntWalk.i32_in (c.tmod 63 + 63) (by omega)
  have f4 : 0 ≤ (c.tmod 63 + 63).tmod 63 := Int.tmod_nonneg _ (by omega)
  have f5 := Int.tmod_lt_of_pos (c.tmod 63 + 63) (show (0 : Int) < 63 by decide)
  have f6 := IntWalk.i32_in (64 + (c.tmod 63 + 63).tmod 63) (by omega)
  obtain ⟨last, hlast, hlr⟩ : ∃ last : Int, 64 + (c.tmod 63 + 63).tmod 63 = last ∧ 64 ≤ last ∧ last ≤ 126 := ⟨_, rfl, by omega, by omega⟩
  have f7 := IntWalk.i32_in last (by omega)
  obtain ⟨R1, H1, F1, hc1, hB1, hE1, -⟩ := one0.step (ys := []) 27 (by decide) (by simp)
  have hE1' : R1 = .v (.slice none 0 0) := hE1
  subst hE1'
  have hB1' : One H1 F1 0 1 [] := hB1
  obtain ⟨R2, H2, F2, hc2, hB2, hE2, -⟩ := hB1'.step (ys := []) 91 (by decide) (by simp)
  have hE2' : R2 = .v (.slice none 0 0) := hE2
  subst hE2'
  have hB2' : One H2 F2 0 2 [] := hB2
  refine WC.enter Try.func4 rfl (Nat.le_of_ble_eq_true rfl) (by simp only [Slots.of, Try.ntmps4, Nat.reduceAdd, Nat.reduceDiv, rows8P, row8]; rfl) ?_
  repeat' (first
   | apply V.sq
   | apply V.bl
   | apply V.sc
   | apply V.skip
   | apply V.label
   | apply V.ret
   | apply V.exit
   | apply SeqQ.normal
   | apply SeqQ.ret
   | apply SeqQ.exit
   | apply BlockQ.normal
   | apply BlockQ.ret
   | apply BlockQ.here
   | (apply BlockQ.there; decide)
   | apply LoopS.ret
   | apply LoopS.exit
   | apply LoopF.ret
   | apply LoopF.exit
   | (apply V.reg; (focus ((repeat (first
   | exact RO.nil
   | (apply RO.op; rfl; (simp only [len_SlH EA 0 _ _ (hs0 _), hm0, hsl, len_SlH EA 0 _ _ (hsB _), ints_len, f3, f7, hlast, go_sem, Nat.reduceDiv, Nat.reduceMod, Nat.reduceAdd, Nat.reduceSub, Nat.reduceEqDiff, Nat.reduceLeDiff, Nat.reduceLT, Nat.reduceMul, reduceIte, Nat.reducePow, Int.reduceEq, List.toList_toArray]; (first | rfl | (apply ite_ok; (first | assumption | rfl | omega | (refine ⟨?_, ?_⟩ <;> omega)); rfl))); rfl)
   | (apply RO.opg; (first | (apply wantT; rfl; rfl; (simp only [Nat.reduceDiv, Nat.reduceMod, get_nth, nth_zero, nth_succ]; rfl)) | (apply wantF; rfl; rfl; (simp only [Nat.reduceDiv, Nat.reduceMod, get_nth, nth_zero, nth_succ]; rfl)) | (apply wantTg; rfl; rfl; (simp only [Nat.reduceDiv, Nat.reduceMod, get_nth, nth_zero, nth_succ]; rfl)) | (apply wantFg; rfl; rfl; (simp only [Nat.reduceDiv, Nat.reduceMod, get_nth, nth_zero, nth_succ]; rfl)) | (apply wantU; rfl; rfl; (simp only [Nat.reduceDiv, Nat.reduceMod, get_nth, nth_zero, nth_succ]; rfl))); (intro h; (try simp only [Bool.and_eq_true, Bool.not_eq_true', Bool.not_eq_eq_eq_not, Bool.not_true] at h); simp only [h, len_SlH EA 0 _ _ (hs0 _), hm0, hsl, len_SlH EA 0 _ _ (hsB _), ints_len, f3, f7, hlast, go_sem, Nat.reduceDiv, Nat.reduceMod, Nat.reduceAdd, Nat.reduceSub, Nat.reduceEqDiff, Nat.reduceLeDiff, Nat.reduceLT, Nat.reduceMul, reduceIte, Nat.reducePow, Int.reduceEq, List.toList_toArray]; (first | rfl | (apply ite_ok; (first | assumption | rfl | omega | (refine ⟨?_, ?_⟩ <;> omega)); rfl))); rfl)
   | (apply RO.call; exact want0 rfl; (simp only [len_SlH EA 0 _ _ (hs0 _), hm0, hsl, len_SlH EA 0 _ _ (hsB _), ints_len, f3, f7, hlast, go_sem, Nat.reduceDiv, Nat.reduceMod, Nat.reduceAdd, Nat.reduceSub, Nat.reduceEqDiff, Nat.reduceLeDiff, Nat.reduceLT, Nat.reduceMul, reduceIte, Nat.reducePow, Int.reduceEq, List.toList_toArray]; rfl); (first | (apply begun_call <;> (first | assumption | rfl | omega | (refine ⟨?_, ?_⟩ <;> omega))) | (apply hc1 <;> (first | assumption | rfl | omega | (refine ⟨?_, ?_⟩ <;> omega))) | (apply hc2 <;> (first | assumption | rfl | omega | (refine ⟨?_, ?_⟩ <;> omega)))); rfl)
   | (apply RO.callg; (first | (apply wantT; rfl; rfl; (simp only [Nat.reduceDiv, Nat.reduceMod, get_nth, nth_zero, nth_succ]; rfl)) | (apply wantF; rfl; rfl; (simp only [Nat.reduceDiv, Nat.reduceMod, get_nth, nth_zero, nth_succ]; rfl)) | (apply wantTg; rfl; rfl; (simp only [Nat.reduceDiv, Nat.reduceMod, get_nth, nth_zero, nth_succ]; rfl)) | (apply wantFg; rfl; rfl; (simp only [Nat.reduceDiv, Nat.reduceMod, get_nth, nth_zero, nth_succ]; rfl)) | (apply wantU; rfl; rfl; (simp only [Nat.reduceDiv, Nat.reduceMod, get_nth, nth_zero, nth_succ]; rfl))); (intro h; (try simp only [Bool.and_eq_true, Bool.not_eq_true', Bool.not_eq_eq_eq_not, Bool.not_true] at h); simp only [h, len_SlH EA 0 _ _ (hs0 _), hm0, hsl, len_SlH EA 0 _ _ (hsB _), ints_len, f3, f7, hlast, go_sem, Nat.reduceDiv, Nat.reduceMod, Nat.reduceAdd, Nat.reduceSub, Nat.reduceEqDiff, Nat.reduceLeDiff, Nat.reduceLT, Nat.reduceMul, reduceIte, Nat.reducePow, Int.reduceEq, List.toList_toArray]; rfl); (intro h; (try simp only [Bool.and_eq_true, Bool.not_eq_true', Bool.not_eq_eq_eq_not, Bool.not_true] at h); (first | (apply begun_call <;> (first | assumption | rfl | omega | (refine ⟨?_, ?_⟩ <;> omega))) | (apply hc1 <;> (first | assumption | rfl | omega | (refine ⟨?_, ?_⟩ <;> omega))) | (apply hc2 <;> (first | assumption | rfl | omega | (refine ⟨?_, ?_⟩ <;> omega))))); rfl)
   | (apply RO.no; apply wantNo; (first | (apply wantT; rfl; rfl; (simp only [Nat.reduceDiv, Nat.reduceMod, get_nth, nth_zero, nth_succ]; rfl)) | (apply wantF; rfl; rfl; (simp only [Nat.reduceDiv, Nat.reduceMod, get_nth, nth_zero, nth_succ]; rfl)) | (apply wantTg; rfl; rfl; (simp only [Nat.reduceDiv, Nat.reduceMod, get_nth, nth_zero, nth_succ]; rfl)) | (apply wantFg; rfl; rfl; (simp only [Nat.reduceDiv, Nat.reduceMod, get_nth, nth_zero, nth_succ]; rfl)) | (apply wantU; rfl; rfl; (simp only [Nat.reduceDiv, Nat.reduceMod, get_nth, nth_zero, nth_succ]; rfl))); (first | rfl | (simp only [len_SlH EA 0 _ _ (hs0 _), hm0, hsl, len_SlH EA 0 _ _ (hsB _), ints_len, f3, f7, hlast, Bool.and_false, Bool.false_and, Bool.not_true, Bool.not_false, decide_true, decide_false, Bool.or_true, Bool.true_or, not_true_eq_false, not_false_eq_true, Bool.and_true, Bool.true_and]; done)); rfl))); done)))
   | (apply V.regd; (focus ((repeat (first
   | exact RO.nil
   | (apply RO.op; rfl; (simp only [len_SlH EA 0 _ _ (hs0 _), hm0, hsl, len_SlH EA 0 _ _ (hsB _), ints_len, f3, f7, hlast, go_sem, Nat.reduceDiv, Nat.reduceMod, Nat.reduceAdd, Nat.reduceSub, Nat.reduceEqDiff, Nat.reduceLeDiff, Nat.reduceLT, Nat.reduceMul, reduceIte, Nat.reducePow, Int.reduceEq, List.toList_toArray]; (first | rfl | (apply ite_ok; (first | assumption | rfl | omega | (refine ⟨?_, ?_⟩ <;> omega)); rfl))); rfl)
   | (apply RO.opg; (first | (apply wantT; rfl; rfl; (simp only [Nat.reduceDiv, Nat.reduceMod, get_nth, nth_zero, nth_succ]; rfl)) | (apply wantF; rfl; rfl; (simp only [Nat.reduceDiv, Nat.reduceMod, get_nth, nth_zero, nth_succ]; rfl)) | (apply wantTg; rfl; rfl; (simp only [Nat.reduceDiv, Nat.reduceMod, get_nth, nth_zero, nth_succ]; rfl)) | (apply wantFg; rfl; rfl; (simp only [Nat.reduceDiv, Nat.reduceMod, get_nth, nth_zero, nth_succ]; rfl)) | (apply wantU; rfl; rfl; (simp only [Nat.reduceDiv, Nat.reduceMod, get_nth, nth_zero, nth_succ]; rfl))); (intro h; (try simp only [Bool.and_eq_true, Bool.not_eq_true', Bool.not_eq_eq_eq_not, Bool.not_true] at h); simp only [h, len_SlH EA 0 _ _ (hs0 _), hm0, hsl, len_SlH EA 0 _ _ (hsB _), ints_len, f3, f7, hlast, go_sem, Nat.reduceDiv, Nat.reduceMod, Nat.reduceAdd, Nat.reduceSub, Nat.reduceEqDiff, Nat.reduceLeDiff, Nat.reduceLT, Nat.reduceMul, reduceIte, Nat.reducePow, Int.reduceEq, List.toList_toArray]; (first | rfl | (apply ite_ok; (first | assumption | rfl | omega | (refine ⟨?_, ?_⟩ <;> omega)); rfl))); rfl)
   | (apply RO.call; exact want0 rfl; (simp only [len_SlH EA 0 _ _ (hs0 _), hm0, hsl, len_SlH EA 0 _ _ (hsB _), ints_len, f3, f7, hlast, go_sem, Nat.reduceDiv, Nat.reduceMod, Nat.reduceAdd, Nat.reduceSub, Nat.reduceEqDiff, Nat.reduceLeDiff, Nat.reduceLT, Nat.reduceMul, reduceIte, Nat.reducePow, Int.reduceEq, List.toList_toArray]; rfl); (first | (apply begun_call <;> (first | assumption | rfl | omega | (refine ⟨?_, ?_⟩ <;> omega))) | (apply hc1 <;> (first | assumption | rfl | omega | (refine ⟨?_, ?_⟩ <;> omega))) | (apply hc2 <;> (first | assumption | rfl | omega | (refine ⟨?_, ?_⟩ <;> omega)))); rfl)
   | (apply RO.callg; (first | (apply wantT; rfl; rfl; (simp only [Nat.reduceDiv, Nat.reduceMod, get_nth, nth_zero, nth_succ]; rfl)) | (apply wantF; rfl; rfl; (simp only [Nat.reduceDiv, Nat.reduceMod, get_nth, nth_zero, nth_succ]; rfl)) | (apply wantTg; rfl; rfl; (simp only [Nat.reduceDiv, Nat.reduceMod, get_nth, nth_zero, nth_succ]; rfl)) | (apply wantFg; rfl; rfl; (simp only [Nat.reduceDiv, Nat.reduceMod, get_nth, nth_zero, nth_succ]; rfl)) | (apply wantU; rfl; rfl; (simp only [Nat.reduceDiv, Nat.reduceMod, get_nth, nth_zero, nth_succ]; rfl))); (intro h; (try simp only [Bool.and_eq_true, Bool.not_eq_true', Bool.not_eq_eq_eq_not, Bool.not_true] at h); simp only [h, len_SlH EA 0 _ _ (hs0 _), hm0, hsl, len_SlH EA 0 _ _ (hsB _), ints_len, f3, f7, hlast, go_sem, Nat.reduceDiv, Nat.reduceMod, Nat.reduceAdd, Nat.reduceSub, Nat.reduceEqDiff, Nat.reduceLeDiff, Nat.reduceLT, Nat.reduceMul, reduceIte, Nat.reducePow, Int.reduceEq, List.toList_toArray]; rfl); (intro h; (try simp only [Bool.and_eq_true, Bool.not_eq_true', Bool.not_eq_eq_eq_not, Bool.not_true] at h); (first | (apply begun_call <;> (first | assumption | rfl | omega | (refine ⟨?_, ?_⟩ <;> omega))) | (apply hc1 <;> (first | assumption | rfl | omega | (refine ⟨?_, ?_⟩ <;> omega))) | (apply hc2 <;> (first | assumption | rfl | omega | (refine ⟨?_, ?_⟩ <;> omega))))); rfl)
   | (apply RO.no; apply wantNo; (first | (apply wantT; rfl; rfl; (simp only [Nat.reduceDiv, Nat.reduceMod, get_nth, nth_zero, nth_succ]; rfl)) | (apply wantF; rfl; rfl; (simp only [Nat.reduceDiv, Nat.reduceMod, get_nth, nth_zero, nth_succ]; rfl)) | (apply wantTg; rfl; rfl; (simp only [Nat.reduceDiv, Nat.reduceMod, get_nth, nth_zero, nth_succ]; rfl)) | (apply wantFg; rfl; rfl; (simp only [Nat.reduceDiv, Nat.reduceMod, get_nth, nth_zero, nth_succ]; rfl)) | (apply wantU; rfl; rfl; (simp only [Nat.reduceDiv, Nat.reduceMod, get_nth, nth_zero, nth_succ]; rfl))); (first | rfl | (simp only [len_SlH EA 0 _ _ (hs0 _), hm0, hsl, len_SlH EA 0 _ _ (hsB _), ints_len, f3, f7, hlast, Bool.and_false, Bool.false_and, Bool.not_true, Bool.not_false, decide_true, decide_false, Bool.or_true, Bool.true_or, not_true_eq_false, not_false_eq_true, Bool.and_true, Bool.true_and]; done)); rfl))); done)); (focus kernel_rfl); (focus (first | (apply okPairs_kinds; (focus ((repeat (first | exact Kinds.nil | (apply Kinds.ro; (first | exact RoT.zero | exact RoT.rd | exact RoT.all | exact RoT.rdTr _ | assumption)) | apply Kinds.any)); done)); decide +kernel) | kernel_rfl)))
   | (refine V.cond rfl (fun h => ?_) (fun h => ?_) <;> (try simp only [decide_eq_true_eq, decide_eq_false_iff_not, Bool.and_eq_true, Bool.or_eq_true, Bool.and_eq_false_iff, Bool.or_eq_false_iff, Bool.not_eq_true', Bool.not_eq_false', Bool.not_true, Bool.not_false, Classical.not_not, Int.not_lt, Int.not_le, reduceCtorEq, not_true_eq_false, not_false_eq_true, decide_true, decide_false, Int.reduceEq, Int.reduceLT, Int.reduceLE] at h) <;> (try (exfalso; omega)))
   | (refine FnQ.normal (res0 Try.results4) rfl ?_; (try dsimp only))
   | (refine FnQ.ret (res0 Try.results4) rfl ?_; (try dsimp only))
   | (refine FnQ.ret (res1 Try.results4) (by simp only [Nat.reduceDiv, Nat.reduceMod, get_nth, nth_zero, nth_succ]; rfl) ?_; (try dsimp only))
   | (refine FnQ.ret (res2 Try.results4) (by simp only [Nat.reduceDiv, Nat.reduceMod, get_nth, nth_zero, nth_succ]; rfl) ?_; (try dsimp only))
   | (refine FnQ.retB (resc Try.results4) (by simp only [cellR_op, len_SlH EA 0 _ _ (hs0 _), hm0, hsl, len_SlH EA 0 _ _ (hsB _), ints_len, f3, f7, hlast, go_sem, Nat.reduceDiv, Nat.reduceMod, Nat.reduceAdd, Nat.reduceSub, Nat.reduceEqDiff, Nat.reduceLeDiff, Nat.reduceLT, Nat.reduceMul, reduceIte, Nat.reducePow, Int.reduceEq, List.toList_toArray]; rfl) ?_; (try dsimp only))
   | (refine FnQ.retB (resct Try.results4) (by simp only [cellR_op, len_SlH EA 0 _ _ (hs0 _), hm0, hsl, len_SlH EA 0 _ _ (hsB _), ints_len, f3, f7, hlast, go_sem, Nat.reduceDiv, Nat.reduceMod, Nat.reduceAdd, Nat.reduceSub, Nat.reduceEqDiff, Nat.reduceLeDiff, Nat.reduceLT, Nat.reduceMul, reduceIte, Nat.reducePow, Int.reduceEq, List.toList_toArray]; rfl) ?_; (try dsimp only)))
  have hl0 : 0 < l.length := by omega
  apply V.lpS [7, 8, 9, 34, 35, 36, 37, 38, 39, 40, 41, 42, 43, 44, 45, 46, 47, 48, 49, 50, 51, 52, 53, 54, 55, 56, 57, 58, 59, 60, 61, 62, 63, 64, 65, 66, 67, 68] (fun m xs H => ∃ (i : Nat) (g : _) (Fp : Nat → Prop) (t : List Int), xs = .v (.int .i64 i) :: g ∧ m = l.length - i ∧ i ≤ l.length ∧ One H Fp 0 2 t ∧ t.length ≤ 8 * i ∧ t.all validC = true ∧ (if i = 0 then csiArgs t = [0] else t ≠ [] ∧ csiArgs t = (l.take i).map fun x => min (numOf x) 9999)) l.length
  focus (intro xs; simp only [putMany, set2, Nat.reduceAdd, Nat.reduceDiv, Nat.reduceMod, nth_zero, nth_succ, List.set_cons_zero, List.set_cons_succ]; rfl)
  focus (first | rfl | simp only [readMany, nth_zero, nth_succ, Nat.reduceDiv, Nat.reduceMod])
  · exact ⟨0, _, F2, [], rfl, rfl, Nat.zero_le _, hB2', Nat.le_refl _, rfl, rfl⟩
  · rintro m xs H ⟨i, g, Fp, t, rfl, rfl, hi, hB, htl, htv, hta⟩
    repeat' (first
     | apply V.sq
     | apply V.bl
     | apply V.sc
     | apply V.skip
     | apply V.label
     | apply V.ret
     | apply V.exit
     | apply SeqQ.normal
     | apply SeqQ.ret
     | apply SeqQ.exit
     | apply BlockQ.normal
     | apply BlockQ.ret
     | apply BlockQ.here
     | (apply BlockQ.there; decide)
     | apply LoopS.ret
     | apply LoopS.exit
     | apply LoopF.ret
     | apply LoopF.exit
     | (apply V.reg; (focus ((repeat (first
     | exact RO.nil
     | (apply RO.op; rfl; (simp only [len_SlH EA 0 _ _ (hsB _), ints_len, go_sem, Nat.reduceDiv, Nat.reduceMod, Nat.reduceAdd, Nat.reduceSub, Nat.reduceEqDiff, Nat.reduceLeDiff, Nat.reduceLT, Nat.reduceMul, reduceIte, Nat.reducePow, Int.reduceEq, List.toList_toArray]; (first | rfl | (apply ite_ok; (first | assumption | rfl | omega | (refine ⟨?_, ?_⟩ <;> omega)); rfl))); rfl)
     | (apply RO.opg; (first | (apply wantT; rfl; rfl; (simp only [Nat.reduceDiv, Nat.reduceMod, get_nth, nth_zero, nth_succ]; rfl)) | (apply wantF; rfl; rfl; (simp only [Nat.reduceDiv, Nat.reduceMod, get_nth, nth_zero, nth_succ]; rfl)) | (apply wantTg; rfl; rfl; (simp only [Nat.reduceDiv, Nat.reduceMod, get_nth, nth_zero, nth_succ]; rfl)) | (apply wantFg; rfl; rfl; (simp only [Nat.reduceDiv, Nat.reduceMod, get_nth, nth_zero, nth_succ]; rfl)) | (apply wantU; rfl; rfl; (simp only [Nat.reduceDiv, Nat.reduceMod, get_nth, nth_zero, nth_succ]; rfl))); (intro h; (try simp only [Bool.and_eq_true, Bool.not_eq_true', Bool.not_eq_eq_eq_not, Bool.not_true] at h); simp only [h, len_SlH EA 0 _ _ (hsB _), ints_len, go_sem, Nat.reduceDiv, Nat.reduceMod, Nat.reduceAdd, Nat.reduceSub, Nat.reduceEqDiff, Nat.reduceLeDiff, Nat.reduceLT, Nat.reduceMul, reduceIte, Nat.reducePow, Int.reduceEq, List.toList_toArray]; (first | rfl | (apply ite_ok; (first | assumption | rfl | omega | (refine ⟨?_, ?_⟩ <;> omega)); rfl))); rfl)
     | (apply RO.call; exact want0 rfl; (simp only [len_SlH EA 0 _ _ (hsB _), ints_len, go_sem, Nat.reduceDiv, Nat.reduceMod, Nat.reduceAdd, Nat.reduceSub, Nat.reduceEqDiff, Nat.reduceLeDiff, Nat.reduceLT, Nat.reduceMul, reduceIte, Nat.reducePow, Int.reduceEq, List.toList_toArray]; rfl); fail; rfl)
     | (apply RO.callg; (first | (apply wantT; rfl; rfl; (simp only [Nat.reduceDiv, Nat.reduceMod, get_nth, nth_zero, nth_succ]; rfl)) | (apply wantF; rfl; rfl; (simp only [Nat.reduceDiv, Nat.reduceMod, get_nth, nth_zero, nth_succ]; rfl)) | (apply wantTg; rfl; rfl; (simp only [Nat.reduceDiv, Nat.reduceMod, get_nth, nth_zero, nth_succ]; rfl)) | (apply wantFg; rfl; rfl; (simp only [Nat.reduceDiv, Nat.reduceMod, get_nth, nth_zero, nth_succ]; rfl)) | (apply wantU; rfl; rfl; (simp only [Nat.reduceDiv, Nat.reduceMod, get_nth, nth_zero, nth_succ]; rfl))); (intro h; (try simp only [Bool.and_eq_true, Bool.not_eq_true', Bool.not_eq_eq_eq_not, Bool.not_true] at h); simp only [h, len_SlH EA 0 _ _ (hsB _), ints_len, go_sem, Nat.reduceDiv, Nat.reduceMod, Nat.reduceAdd, Nat.reduceSub, Nat.reduceEqDiff, Nat.reduceLeDiff, Nat.reduceLT, Nat.reduceMul, reduceIte, Nat.reducePow, Int.reduceEq, List.toList_toArray]; rfl); (intro h; (try simp only [Bool.and_eq_true, Bool.not_eq_true', Bool.not_eq_eq_eq_not, Bool.not_true] at h); fail); rfl)
     | (apply RO.no; apply wantNo; (first | (apply wantT; rfl; rfl; (simp only [Nat.reduceDiv, Nat.reduceMod, get_nth, nth_zero, nth_succ]; rfl)) | (apply wantF; rfl; rfl; (simp only [Nat.reduceDiv, Nat.reduceMod, get_nth, nth_zero, nth_succ]; rfl)) | (apply wantTg; rfl; rfl; (simp only [Nat.reduceDiv, Nat.reduceMod, get_nth, nth_zero, nth_succ]; rfl)) | (apply wantFg; rfl; rfl; (simp only [Nat.reduceDiv, Nat.reduceMod, get_nth, nth_zero, nth_succ]; rfl)) | (apply wantU; rfl; rfl; (simp only [Nat.reduceDiv, Nat.reduceMod, get_nth, nth_zero, nth_succ]; rfl))); (first | rfl | (simp only [len_SlH EA 0 _ _ (hsB _), ints_len, Bool.and_false, Bool.false_and, Bool.not_true, Bool.not_false, decide_true, decide_false, Bool.or_true, Bool.true_or, not_true_eq_false, not_false_eq_true, Bool.and_true, Bool.true_and]; done)); rfl))); done)))
     | (apply V.regd; (focus ((repeat (first
     | exact RO.nil
     | (apply RO.op; rfl; (simp only [len_SlH EA 0 _ _ (hsB _), ints_len, go_sem, Nat.reduceDiv, Nat.reduceMod, Nat.reduceAdd, Nat.reduceSub, Nat.reduceEqDiff, Nat.reduceLeDiff, Nat.reduceLT, Nat.reduceMul, reduceIte, Nat.reducePow, Int.reduceEq, List.toList_toArray]; (first | rfl | (apply ite_ok; (first | assumption | rfl | omega | (refine ⟨?_, ?_⟩ <;> omega)); rfl))); rfl)
     | (apply RO.opg; (first | (apply wantT; rfl; rfl; (simp only [Nat.reduceDiv, Nat.reduceMod, get_nth, nth_zero, nth_succ]; rfl)) | (apply wantF; rfl; rfl; (simp only [Nat.reduceDiv, Nat.reduceMod, get_nth, nth_zero, nth_succ]; rfl)) | (apply wantTg; rfl; rfl; (simp only [Nat.reduceDiv, Nat.reduceMod, get_nth, nth_zero, nth_succ]; rfl)) | (apply wantFg; rfl; rfl; (simp only [Nat.reduceDiv, Nat.reduceMod, get_nth, nth_zero, nth_succ]; rfl)) | (apply wantU; rfl; rfl; (simp only [Nat.reduceDiv, Nat.reduceMod, get_nth, nth_zero, nth_succ]; rfl))); (intro h; (try simp only [Bool.and_eq_true, Bool.not_eq_true', Bool.not_eq_eq_eq_not, Bool.not_true] at h); simp only [h, len_SlH EA 0 _ _ (hsB _), ints_len, go_sem, Nat.reduceDiv, Nat.reduceMod, Nat.reduceAdd, Nat.reduceSub, Nat.reduceEqDiff, Nat.reduceLeDiff, Nat.reduceLT, Nat.reduceMul, reduceIte, Nat.reducePow, Int.reduceEq, List.toList_toArray]; (first | rfl | (apply ite_ok; (first | assumption | rfl | omega | (refine ⟨?_, ?_⟩ <;> omega)); rfl))); rfl)
     | (apply RO.call; exact want0 rfl; (simp only [len_SlH EA 0 _ _ (hsB _), ints_len, go_sem, Nat.reduceDiv, Nat.reduceMod, Nat.reduceAdd, Nat.reduceSub, Nat.reduceEqDiff, Nat.reduceLeDiff, Nat.reduceLT, Nat.reduceMul, reduceIte, Nat.reducePow, Int.reduceEq, List.toList_toArray]; rfl); fail; rfl)
     | (apply RO.callg; (first | (apply wantT; rfl; rfl; (simp only [Nat.reduceDiv, Nat.reduceMod, get_nth, nth_zero, nth_succ]; rfl)) | (apply wantF; rfl; rfl; (simp only [Nat.reduceDiv, Nat.reduceMod, get_nth, nth_zero, nth_succ]; rfl)) | (apply wantTg; rfl; rfl; (simp only [Nat.reduceDiv, Nat.reduceMod, get_nth, nth_zero, nth_succ]; rfl)) | (apply wantFg; rfl; rfl; (simp only [Nat.reduceDiv, Nat.reduceMod, get_nth, nth_zero, nth_succ]; rfl)) | (apply wantU; rfl; rfl; (simp only [Nat.reduceDiv, Nat.reduceMod, get_nth, nth_zero, nth_succ]; rfl))); (intro h; (try simp only [Bool.and_eq_true, Bool.not_eq_true', Bool.not_eq_eq_eq_not, Bool.not_true] at h); simp only [h, len_SlH EA 0 _ _ (hsB _), ints_len, go_sem, Nat.reduceDiv, Nat.reduceMod, Nat.reduceAdd, Nat.reduceSub, Nat.reduceEqDiff, Nat.reduceLeDiff, Nat.reduceLT, Nat.reduceMul, reduceIte, Nat.reducePow, Int.reduceEq, List.toList_toArray]; rfl); (intro h; (try simp only [Bool.and_eq_true, Bool.not_eq_true', Bool.not_eq_eq_eq_not, Bool.not_true] at h); fail); rfl)
     | (apply RO.no; apply wantNo; (first | (apply wantT; rfl; rfl; (simp only [Nat.reduceDiv, Nat.reduceMod, get_nth, nth_zero, nth_succ]; rfl)) | (apply wantF; rfl; rfl; (simp only [Nat.reduceDiv, Nat.reduceMod, get_nth, nth_zero, nth_succ]; rfl)) | (apply wantTg; rfl; rfl; (simp only [Nat.reduceDiv, Nat.reduceMod, get_nth, nth_zero, nth_succ]; rfl)) | (apply wantFg; rfl; rfl; (simp only [Nat.reduceDiv, Nat.reduceMod, get_nth, nth_zero, nth_succ]; rfl)) | (apply wantU; rfl; rfl; (simp only [Nat.reduceDiv, Nat.reduceMod, get_nth, nth_zero, nth_succ]; rfl))); (first | rfl | (simp only [len_SlH EA 0 _ _ (hsB _), ints_len, Bool.and_false, Bool.false_and, Bool.not_true, Bool.not_false, decide_true, decide_false, Bool.or_true, Bool.true_or, not_true_eq_false, not_false_eq_true, Bool.and_true, Bool.true_and]; done)); rfl))); done)); (focus kernel_rfl); (focus (first | (apply okPairs_kinds; (focus ((repeat (first | exact Kinds.nil | (apply Kinds.ro; (first | exact RoT.zero | exact RoT.rd | exact RoT.all | exact RoT.rdTr _ | assumption)) | apply Kinds.any)); done)); decide +kernel) | kernel_rfl)))
     | (refine V.cond rfl (fun h => ?_) (fun h => ?_) <;> (try simp only [decide_eq_true_eq, decide_eq_false_iff_not, Bool.and_eq_true, Bool.or_eq_true, Bool.and_eq_false_iff, Bool.or_eq_false_iff, Bool.not_eq_true', Bool.not_eq_false', Bool.not_true, Bool.not_false, Classical.not_not, Int.not_lt, Int.not_le, reduceCtorEq, not_true_eq_false, not_false_eq_true, decide_true, decide_false, Int.reduceEq, Int.reduceLT, Int.reduceLE] at h) <;> (try (exfalso; omega)))
     | (refine FnQ.normal (res0 Try.results4) rfl ?_; (try dsimp only))
     | (refine FnQ.ret (res0 Try.results4) rfl ?_; (try dsimp only))
     | (refine FnQ.ret (res1 Try.results4) (by simp only [Nat.reduceDiv, Nat.reduceMod, get_nth, nth_zero, nth_succ]; rfl) ?_; (try dsimp only))
     | (refine FnQ.ret (res2 Try.results4) (by simp only [Nat.reduceDiv, Nat.reduceMod, get_nth, nth_zero, nth_succ]; rfl) ?_; (try dsimp only))
     | (refine FnQ.retB (resc Try.results4) (by simp only [cellR_op, len_SlH EA 0 _ _ (hsB _), ints_len, go_sem, Nat.reduceDiv, Nat.reduceMod, Nat.reduceAdd, Nat.reduceSub, Nat.reduceEqDiff, Nat.reduceLeDiff, Nat.reduceLT, Nat.reduceMul, reduceIte, Nat.reducePow, Int.reduceEq, List.toList_toArray]; rfl) ?_; (try dsimp only))
     | (refine FnQ.retB (resct Try.results4) (by simp only [cellR_op, len_SlH EA 0 _ _ (hsB _), ints_len, go_sem, Nat.reduceDiv, Nat.reduceMod, Nat.reduceAdd, Nat.reduceSub, Nat.reduceEqDiff, Nat.reduceLeDiff, Nat.reduceLT, Nat.reduceMul, reduceIte, Nat.reducePow, Int.reduceEq, List.toList_toArray]; rfl) ?_; (try dsimp only)))
    · have hi0 : i ≠ 0 := by omega
      rw [if_neg hi0] at hta
      obtain ⟨R, Hx, Fx, hc3, hBx, hE3, -⟩ := hB.step (ys := []) 59 (by decide) (by omega)
      rw [put_digit t 59 (.inl rfl)] at hBx hE3
      have hE3' : R = .v (.slice none 0 0) := hE3
      subst hE3'
      have hvx : (t ++ [59]).all validC = true := by rw [List.all_append, htv]; rfl
      have hax : csiArgs (t ++ [59]) = ((l.take i).map fun x => min (numOf x) 9999) ++ [0] := by
        rw [csiArgs_snoc, stepArgs, if_pos rfl, hta.2]
      have hlx : (t ++ [59]).length ≤ 8 * i + 1 := by rw [List.length_append, List.length_singleton]; omega
      repeat' (first
       | apply V.sq
       | apply V.bl
       | apply V.sc
       | apply V.skip
       | apply V.label
       | apply V.ret
       | apply V.exit
       | apply SeqQ.normal
       | apply SeqQ.ret
       | apply SeqQ.exit
       | apply BlockQ.normal
       | apply BlockQ.ret
       | apply BlockQ.here
       | (apply BlockQ.there; decide)
       | apply LoopS.ret
       | apply LoopS.exit
       | apply LoopF.ret
       | apply LoopF.exit
       | (apply V.reg; (focus ((repeat (first
       | exact RO.nil
       | (apply RO.op; rfl; (simp only [go_sem, Nat.reduceDiv, Nat.reduceMod, Nat.reduceAdd, Nat.reduceSub, Nat.reduceEqDiff, Nat.reduceLeDiff, Nat.reduceLT, Nat.reduceMul, reduceIte, Nat.reducePow, Int.reduceEq, List.toList_toArray]; (first | rfl | (apply ite_ok; (first | assumption | rfl | omega | (refine ⟨?_, ?_⟩ <;> omega)); rfl))); rfl)
       | (apply RO.opg; (first | (apply wantT; rfl; rfl; (simp only [Nat.reduceDiv, Nat.reduceMod, get_nth, nth_zero, nth_succ]; rfl)) | (apply wantF; rfl; rfl; (simp only [Nat.reduceDiv, Nat.reduceMod, get_nth, nth_zero, nth_succ]; rfl)) | (apply wantTg; rfl; rfl; (simp only [Nat.reduceDiv, Nat.reduceMod, get_nth, nth_zero, nth_succ]; rfl)) | (apply wantFg; rfl; rfl; (simp only [Nat.reduceDiv, Nat.reduceMod, get_nth, nth_zero, nth_succ]; rfl)) | (apply wantU; rfl; rfl; (simp only [Nat.reduceDiv, Nat.reduceMod, get_nth, nth_zero, nth_succ]; rfl))); (intro h; (try simp only [Bool.and_eq_true, Bool.not_eq_true', Bool.not_eq_eq_eq_not, Bool.not_true] at h); simp only [h, go_sem, Nat.reduceDiv, Nat.reduceMod, Nat.reduceAdd, Nat.reduceSub, Nat.reduceEqDiff, Nat.reduceLeDiff, Nat.reduceLT, Nat.reduceMul, reduceIte, Nat.reducePow, Int.reduceEq, List.toList_toArray]; (first | rfl | (apply ite_ok; (first | assumption | rfl | omega | (refine ⟨?_, ?_⟩ <;> omega)); rfl))); rfl)
       | (apply RO.call; exact want0 rfl; (simp only [go_sem, Nat.reduceDiv, Nat.reduceMod, Nat.reduceAdd, Nat.reduceSub, Nat.reduceEqDiff, Nat.reduceLeDiff, Nat.reduceLT, Nat.reduceMul, reduceIte, Nat.reducePow, Int.reduceEq, List.toList_toArray]; rfl); (first | (apply hc3 <;> (first | assumption | rfl | omega | (refine ⟨?_, ?_⟩ <;> omega)))); rfl)
       | (apply RO.callg; (first | (apply wantT; rfl; rfl; (simp only [Nat.reduceDiv, Nat.reduceMod, get_nth, nth_zero, nth_succ]; rfl)) | (apply wantF; rfl; rfl; (simp only [Nat.reduceDiv, Nat.reduceMod, get_nth, nth_zero, nth_succ]; rfl)) | (apply wantTg; rfl; rfl; (simp only [Nat.reduceDiv, Nat.reduceMod, get_nth, nth_zero, nth_succ]; rfl)) | (apply wantFg; rfl; rfl; (simp only [Nat.reduceDiv, Nat.reduceMod, get_nth, nth_zero, nth_succ]; rfl)) | (apply wantU; rfl; rfl; (simp only [Nat.reduceDiv, Nat.reduceMod, get_nth, nth_zero, nth_succ]; rfl))); (intro h; (try simp only [Bool.and_eq_true, Bool.not_eq_true', Bool.not_eq_eq_eq_not, Bool.not_true] at h); simp only [h, go_sem, Nat.reduceDiv, Nat.reduceMod, Nat.reduceAdd, Nat.reduceSub, Nat.reduceEqDiff, Nat.reduceLeDiff, Nat.reduceLT, Nat.reduceMul, reduceIte, Nat.reducePow, Int.reduceEq, List.toList_toArray]; rfl); (intro h; (try simp only [Bool.and_eq_true, Bool.not_eq_true', Bool.not_eq_eq_eq_not, Bool.not_true] at h); (first | (apply hc3 <;> (first | assumption | rfl | omega | (refine ⟨?_, ?_⟩ <;> omega))))); rfl)
       | (apply RO.no; apply wantNo; (first | (apply wantT; rfl; rfl; (simp only [Nat.reduceDiv, Nat.reduceMod, get_nth, nth_zero, nth_succ]; rfl)) | (apply wantF; rfl; rfl; (simp only [Nat.reduceDiv, Nat.reduceMod, get_nth, nth_zero, nth_succ]; rfl)) | (apply wantTg; rfl; rfl; (simp only [Nat.reduceDiv, Nat.reduceMod, get_nth, nth_zero, nth_succ]; rfl)) | (apply wantFg; rfl; rfl; (simp only [Nat.reduceDiv, Nat.reduceMod, get_nth, nth_zero, nth_succ]; rfl)) | (apply wantU; rfl; rfl; (simp only [Nat.reduceDiv, Nat.reduceMod, get_nth, nth_zero, nth_succ]; rfl))); (first | rfl | (simp only [Bool.and_false, Bool.false_and, Bool.not_true, Bool.not_false, decide_true, decide_false, Bool.or_true, Bool.true_or, not_true_eq_false, not_false_eq_true, Bool.and_true, Bool.true_and]; done)); rfl))); done)))
       | (apply V.regd; (focus ((repeat (first
       | exact RO.nil
       | (apply RO.op; rfl; (simp only [go_sem, Nat.reduceDiv, Nat.reduceMod, Nat.reduceAdd, Nat.reduceSub, Nat.reduceEqDiff, Nat.reduceLeDiff, Nat.reduceLT, Nat.reduceMul, reduceIte, Nat.reducePow, Int.reduceEq, List.toList_toArray]; (first | rfl | (apply ite_ok; (first | assumption | rfl | omega | (refine ⟨?_, ?_⟩ <;> omega)); rfl))); rfl)
       | (apply RO.opg; (first | (apply wantT; rfl; rfl; (simp only [Nat.reduceDiv, Nat.reduceMod, get_nth, nth_zero, nth_succ]; rfl)) | (apply wantF; rfl; rfl; (simp only [Nat.reduceDiv, Nat.reduceMod, get_nth, nth_zero, nth_succ]; rfl)) | (apply wantTg; rfl; rfl; (simp only [Nat.reduceDiv, Nat.reduceMod, get_nth, nth_zero, nth_succ]; rfl)) | (apply wantFg; rfl; rfl; (simp only [Nat.reduceDiv, Nat.reduceMod, get_nth, nth_zero, nth_succ]; rfl)) | (apply wantU; rfl; rfl; (simp only [Nat.reduceDiv, Nat.reduceMod, get_nth, nth_zero, nth_succ]; rfl))); (intro h; (try simp only [Bool.and_eq_true, Bool.not_eq_true', Bool.not_eq_eq_eq_not, Bool.not_true] at h); simp only [h, go_sem, Nat.reduceDiv, Nat.reduceMod, Nat.reduceAdd, Nat.reduceSub, Nat.reduceEqDiff, Nat.reduceLeDiff, Nat.reduceLT, Nat.reduceMul, reduceIte, Nat.reducePow, Int.reduceEq, List.toList_toArray]; (first | rfl | (apply ite_ok; (first | assumption | rfl | omega | (refine ⟨?_, ?_⟩ <;> omega)); rfl))); rfl)
       | (apply RO.call; exact want0 rfl; (simp only [go_sem, Nat.reduceDiv, Nat.reduceMod, Nat.reduceAdd, Nat.reduceSub, Nat.reduceEqDiff, Nat.reduceLeDiff, Nat.reduceLT, Nat.reduceMul, reduceIte, Nat.reducePow, Int.reduceEq, List.toList_toArray]; rfl); (first | (apply hc3 <;> (first | assumption | rfl | omega | (refine ⟨?_, ?_⟩ <;> omega)))); rfl)
       | (apply RO.callg; (first | (apply wantT; rfl; rfl; (simp only [Nat.reduceDiv, Nat.reduceMod, get_nth, nth_zero, nth_succ]; rfl)) | (apply wantF; rfl; rfl; (simp only [Nat.reduceDiv, Nat.reduceMod, get_nth, nth_zero, nth_succ]; rfl)) | (apply wantTg; rfl; rfl; (simp only [Nat.reduceDiv, Nat.reduceMod, get_nth, nth_zero, nth_succ]; rfl)) | (apply wantFg; rfl; rfl; (simp only [Nat.reduceDiv, Nat.reduceMod, get_nth, nth_zero, nth_succ]; rfl)) | (apply wantU; rfl; rfl; (simp only [Nat.reduceDiv, Nat.reduceMod, get_nth, nth_zero, nth_succ]; rfl))); (intro h; (try simp only [Bool.and_eq_true, Bool.not_eq_true', Bool.not_eq_eq_eq_not, Bool.not_true] at h); simp only [h, go_sem, Nat.reduceDiv, Nat.reduceMod, Nat.reduceAdd, Nat.reduceSub, Nat.reduceEqDiff, Nat.reduceLeDiff, Nat.reduceLT, Nat.reduceMul, reduceIte, Nat.reducePow, Int.reduceEq, List.toList_toArray]; rfl); (intro h; (try simp only [Bool.and_eq_true, Bool.not_eq_true', Bool.not_eq_eq_eq_not, Bool.not_true] at h); (first | (apply hc3 <;> (first | assumption | rfl | omega | (refine ⟨?_, ?_⟩ <;> omega))))); rfl)
       | (apply RO.no; apply wantNo; (first | (apply wantT; rfl; rfl; (simp only [Nat.reduceDiv, Nat.reduceMod, get_nth, nth_zero, nth_succ]; rfl)) | (apply wantF; rfl; rfl; (simp only [Nat.reduceDiv, Nat.reduceMod, get_nth, nth_zero, nth_succ]; rfl)) | (apply wantTg; rfl; rfl; (simp only [Nat.reduceDiv, Nat.reduceMod, get_nth, nth_zero, nth_succ]; rfl)) | (apply wantFg; rfl; rfl; (simp only [Nat.reduceDiv, Nat.reduceMod, get_nth, nth_zero, nth_succ]; rfl)) | (apply wantU; rfl; rfl; (simp only [Nat.reduceDiv, Nat.reduceMod, get_nth, nth_zero, nth_succ]; rfl))); (first | rfl | (simp only [Bool.and_false, Bool.false_and, Bool.not_true, Bool.not_false, decide_true, decide_false, Bool.or_true, Bool.true_or, not_true_eq_false, not_false_eq_true, Bool.and_true, Bool.true_and]; done)); rfl))); done)); (focus kernel_rfl); (focus (first | (apply okPairs_kinds; (focus ((repeat (first | exact Kinds.nil | (apply Kinds.ro; (first | exact RoT.zero | exact RoT.rd | exact RoT.all | exact RoT.rdTr _ | assumption)) | apply Kinds.any)); done)); decide +kernel) | kernel_rfl)))
       | (refine V.cond rfl (fun h => ?_) (fun h => ?_) <;> (try simp only [decide_eq_true_eq, decide_eq_false_iff_not, Bool.and_eq_true, Bool.or_eq_true, Bool.and_eq_false_iff, Bool.or_eq_false_iff, Bool.not_eq_true', Bool.not_eq_false', Bool.not_true, Bool.not_false, Classical.not_not, Int.not_lt, Int.not_le, reduceCtorEq, not_true_eq_false, not_false_eq_true, decide_true, decide_false, Int.reduceEq, Int.reduceLT, Int.reduceLE] at h) <;> (try (exfalso; omega)))
       | (refine FnQ.normal (res0 Try.results4) rfl ?_; (try dsimp only))
       | (refine FnQ.ret (res0 Try.results4) rfl ?_; (try dsimp only))
       | (refine FnQ.ret (res1 Try.results4) (by simp only [Nat.reduceDiv, Nat.reduceMod, get_nth, nth_zero, nth_succ]; rfl) ?_; (try dsimp only))
       | (refine FnQ.ret (res2 Try.results4) (by simp only [Nat.reduceDiv, Nat.reduceMod, get_nth, nth_zero, nth_succ]; rfl) ?_; (try dsimp only))
       | (refine FnQ.retB (resc Try.results4) (by simp only [cellR_op, go_sem, Nat.reduceDiv, Nat.reduceMod, Nat.reduceAdd, Nat.reduceSub, Nat.reduceEqDiff, Nat.reduceLeDiff, Nat.reduceLT, Nat.reduceMul, reduceIte, Nat.reducePow, Int.reduceEq, List.toList_toArray]; rfl) ?_; (try dsimp only))
       | (refine FnQ.retB (resct Try.results4) (by simp only [cellR_op, go_sem, Nat.reduceDiv, Nat.reduceMod, Nat.reduceAdd, Nat.reduceSub, Nat.reduceEqDiff, Nat.reduceLeDiff, Nat.reduceLT, Nat.reduceMul, reduceIte, Nat.reducePow, Int.reduceEq, List.toList_toArray]; rfl) ?_; (try dsimp only)))
      have h1 : i < l.length := by omega
      have h1' : (i : Int) < (l.length : Int) := by omega
      have hxr := hrl (l.getD i 0) (by rw [List.getD_eq_getElem?_getD, List.getElem?_eq_getElem h1]; exact List.getElem_mem h1)
      have g1 := Int.tmod_lt_of_pos (l.getD i 0) (show (0 : Int) < 1000000 by decide)
      obtain ⟨nn, hnn, hn0, hn1⟩ : ∃ nn : Int, max 0 ((l.getD i 0).tmod 1000000) = nn ∧ 0 ≤ nn ∧ nn < 1000000 := ⟨_, rfl, by omega, by omega⟩
      have hnum : numOf (l.getD i 0) = nn := hnn
      have et : l.take (i + 1) = l.take i ++ [l.getD i 0] := by
        rw [List.take_add_one, List.getD_eq_getElem?_getD, List.getElem?_eq_getElem h1]; rfl
      have hi1 := i64n i (by omega)
      repeat' (first
       | apply V.sq
       | apply V.bl
       | apply V.sc
       | apply V.skip
       | apply V.label
       | apply V.ret
       | apply V.exit
       | apply SeqQ.normal
       | apply SeqQ.ret
       | apply SeqQ.exit
       | apply BlockQ.normal
       | apply BlockQ.ret
       | apply BlockQ.here
       | (apply BlockQ.there; decide)
       | apply LoopS.ret
       | apply LoopS.exit
       | apply LoopF.ret
       | apply LoopF.exit
       | (apply V.reg; (focus ((repeat (first
       | exact RO.nil
       | (apply RO.op; rfl; (simp only [index_SlH EA 0 _ _ _ (hsB _), load_SlH EA 0 _ _ (hsB _), ints_len, h1, h1', nth_ints _ i h1, hnn, go_sem, Nat.reduceDiv, Nat.reduceMod, Nat.reduceAdd, Nat.reduceSub, Nat.reduceEqDiff, Nat.reduceLeDiff, Nat.reduceLT, Nat.reduceMul, reduceIte, Nat.reducePow, Int.reduceEq, List.toList_toArray]; (first | rfl | (apply ite_ok; (first | assumption | rfl | omega | (refine ⟨?_, ?_⟩ <;> omega)); rfl))); rfl)
       | (apply RO.opg; (first | (apply wantT; rfl; rfl; (simp only [Nat.reduceDiv, Nat.reduceMod, get_nth, nth_zero, nth_succ]; rfl)) | (apply wantF; rfl; rfl; (simp only [Nat.reduceDiv, Nat.reduceMod, get_nth, nth_zero, nth_succ]; rfl)) | (apply wantTg; rfl; rfl; (simp only [Nat.reduceDiv, Nat.reduceMod, get_nth, nth_zero, nth_succ]; rfl)) | (apply wantFg; rfl; rfl; (simp only [Nat.reduceDiv, Nat.reduceMod, get_nth, nth_zero, nth_succ]; rfl)) | (apply wantU; rfl; rfl; (simp only [Nat.reduceDiv, Nat.reduceMod, get_nth, nth_zero, nth_succ]; rfl))); (intro h; (try simp only [Bool.and_eq_true, Bool.not_eq_true', Bool.not_eq_eq_eq_not, Bool.not_true] at h); simp only [h, index_SlH EA 0 _ _ _ (hsB _), load_SlH EA 0 _ _ (hsB _), ints_len, h1, h1', nth_ints _ i h1, hnn, go_sem, Nat.reduceDiv, Nat.reduceMod, Nat.reduceAdd, Nat.reduceSub, Nat.reduceEqDiff, Nat.reduceLeDiff, Nat.reduceLT, Nat.reduceMul, reduceIte, Nat.reducePow, Int.reduceEq, List.toList_toArray]; (first | rfl | (apply ite_ok; (first | assumption | rfl | omega | (refine ⟨?_, ?_⟩ <;> omega)); rfl))); rfl)
       | (apply RO.call; exact want0 rfl; (simp only [index_SlH EA 0 _ _ _ (hsB _), load_SlH EA 0 _ _ (hsB _), ints_len, h1, h1', nth_ints _ i h1, hnn, go_sem, Nat.reduceDiv, Nat.reduceMod, Nat.reduceAdd, Nat.reduceSub, Nat.reduceEqDiff, Nat.reduceLeDiff, Nat.reduceLT, Nat.reduceMul, reduceIte, Nat.reducePow, Int.reduceEq, List.toList_toArray]; rfl); fail; rfl)
       | (apply RO.callg; (first | (apply wantT; rfl; rfl; (simp only [Nat.reduceDiv, Nat.reduceMod, get_nth, nth_zero, nth_succ]; rfl)) | (apply wantF; rfl; rfl; (simp only [Nat.reduceDiv, Nat.reduceMod, get_nth, nth_zero, nth_succ]; rfl)) | (apply wantTg; rfl; rfl; (simp only [Nat.reduceDiv, Nat.reduceMod, get_nth, nth_zero, nth_succ]; rfl)) | (apply wantFg; rfl; rfl; (simp only [Nat.reduceDiv, Nat.reduceMod, get_nth, nth_zero, nth_succ]; rfl)) | (apply wantU; rfl; rfl; (simp only [Nat.reduceDiv, Nat.reduceMod, get_nth, nth_zero, nth_succ]; rfl))); (intro h; (try simp only [Bool.and_eq_true, Bool.not_eq_true', Bool.not_eq_eq_eq_not, Bool.not_true] at h); simp only [h, index_SlH EA 0 _ _ _ (hsB _), load_SlH EA 0 _ _ (hsB _), ints_len, h1, h1', nth_ints _ i h1, hnn, go_sem, Nat.reduceDiv, Nat.reduceMod, Nat.reduceAdd, Nat.reduceSub, Nat.reduceEqDiff, Nat.reduceLeDiff, Nat.reduceLT, Nat.reduceMul, reduceIte, Nat.reducePow, Int.reduceEq, List.toList_toArray]; rfl); (intro h; (try simp only [Bool.and_eq_true, Bool.not_eq_true', Bool.not_eq_eq_eq_not, Bool.not_true] at h); fail); rfl)
       | (apply RO.no; apply wantNo; (first | (apply wantT; rfl; rfl; (simp only [Nat.reduceDiv, Nat.reduceMod, get_nth, nth_zero, nth_succ]; rfl)) | (apply wantF; rfl; rfl; (simp only [Nat.reduceDiv, Nat.reduceMod, get_nth, nth_zero, nth_succ]; rfl)) | (apply wantTg; rfl; rfl; (simp only [Nat.reduceDiv, Nat.reduceMod, get_nth, nth_zero, nth_succ]; rfl)) | (apply wantFg; rfl; rfl; (simp only [Nat.reduceDiv, Nat.reduceMod, get_nth, nth_zero, nth_succ]; rfl)) | (apply wantU; rfl; rfl; (simp only [Nat.reduceDiv, Nat.reduceMod, get_nth, nth_zero, nth_succ]; rfl))); (first | rfl | (simp only [index_SlH EA 0 _ _ _ (hsB _), load_SlH EA 0 _ _ (hsB _), ints_len, h1, h1', nth_ints _ i h1, hnn, Bool.and_false, Bool.false_and, Bool.not_true, Bool.not_false, decide_true, decide_false, Bool.or_true, Bool.true_or, not_true_eq_false, not_false_eq_true, Bool.and_true, Bool.true_and]; done)); rfl))); done)))
       | (apply V.regd; (focus ((repeat (first
       | exact RO.nil
       | (apply RO.op; rfl; (simp only [index_SlH EA 0 _ _ _ (hsB _), load_SlH EA 0 _ _ (hsB _), ints_len, h1, h1', nth_ints _ i h1, hnn, go_sem, Nat.reduceDiv, Nat.reduceMod, Nat.reduceAdd, Nat.reduceSub, Nat.reduceEqDiff, Nat.reduceLeDiff, Nat.reduceLT, Nat.reduceMul, reduceIte, Nat.reducePow, Int.reduceEq, List.toList_toArray]; (first | rfl | (apply ite_ok; (first | assumption | rfl | omega | (refine ⟨?_, ?_⟩ <;> omega)); rfl))); rfl)
       | (apply RO.opg; (first | (apply wantT; rfl; rfl; (simp only [Nat.reduceDiv, Nat.reduceMod, get_nth, nth_zero, nth_succ]; rfl)) | (apply wantF; rfl; rfl; (simp only [Nat.reduceDiv, Nat.reduceMod, get_nth, nth_zero, nth_succ]; rfl)) | (apply wantTg; rfl; rfl; (simp only [Nat.reduceDiv, Nat.reduceMod, get_nth, nth_zero, nth_succ]; rfl)) | (apply wantFg; rfl; rfl; (simp only [Nat.reduceDiv, Nat.reduceMod, get_nth, nth_zero, nth_succ]; rfl)) | (apply wantU; rfl; rfl; (simp only [Nat.reduceDiv, Nat.reduceMod, get_nth, nth_zero, nth_succ]; rfl))); (intro h; (try simp only [Bool.and_eq_true, Bool.not_eq_true', Bool.not_eq_eq_eq_not, Bool.not_true] at h); simp only [h, index_SlH EA 0 _ _ _ (hsB _), load_SlH EA 0 _ _ (hsB _), ints_len, h1, h1', nth_ints _ i h1, hnn, go_sem, Nat.reduceDiv, Nat.reduceMod, Nat.reduceAdd, Nat.reduceSub, Nat.reduceEqDiff, Nat.reduceLeDiff, Nat.reduceLT, Nat.reduceMul, reduceIte, Nat.reducePow, Int.reduceEq, List.toList_toArray]; (first | rfl | (apply ite_ok; (first | assumption | rfl | omega | (refine ⟨?_, ?_⟩ <;> omega)); rfl))); rfl)
       | (apply RO.call; exact want0 rfl; (simp only [index_SlH EA 0 _ _ _ (hsB _), load_SlH EA 0 _ _ (hsB _), ints_len, h1, h1', nth_ints _ i h1, hnn, go_sem, Nat.reduceDiv, Nat.reduceMod, Nat.reduceAdd, Nat.reduceSub, Nat.reduceEqDiff, Nat.reduceLeDiff, Nat.reduceLT, Nat.reduceMul, reduceIte, Nat.reducePow, Int.reduceEq, List.toList_toArray]; rfl); fail; rfl)
       | (apply RO.callg; (first | (apply wantT; rfl; rfl; (simp only [Nat.reduceDiv, Nat.reduceMod, get_nth, nth_zero, nth_succ]; rfl)) | (apply wantF; rfl; rfl; (simp only [Nat.reduceDiv, Nat.reduceMod, get_nth, nth_zero, nth_succ]; rfl)) | (apply wantTg; rfl; rfl; (simp only [Nat.reduceDiv, Nat.reduceMod, get_nth, nth_zero, nth_succ]; rfl)) | (apply wantFg; rfl; rfl; (simp only [Nat.reduceDiv, Nat.reduceMod, get_nth, nth_zero, nth_succ]; rfl)) | (apply wantU; rfl; rfl; (simp only [Nat.reduceDiv, Nat.reduceMod, get_nth, nth_zero, nth_succ]; rfl))); (intro h; (try simp only [Bool.and_eq_true, Bool.not_eq_true', Bool.not_eq_eq_eq_not, Bool.not_true] at h); simp only [h, index_SlH EA 0 _ _ _ (hsB _), load_SlH EA 0 _ _ (hsB _), ints_len, h1, h1', nth_ints _ i h1, hnn, go_sem, Nat.reduceDiv, Nat.reduceMod, Nat.reduceAdd, Nat.reduceSub, Nat.reduceEqDiff, Nat.reduceLeDiff, Nat.reduceLT, Nat.reduceMul, reduceIte, Nat.reducePow, Int.reduceEq, List.toList_toArray]; rfl); (intro h; (try simp only [Bool.and_eq_true, Bool.not_eq_true', Bool.not_eq_eq_eq_not, Bool.not_true] at h); fail); rfl)
       | (apply RO.no; apply wantNo; (first | (apply wantT; rfl; rfl; (simp only [Nat.reduceDiv, Nat.reduceMod, get_nth, nth_zero, nth_succ]; rfl)) | (apply wantF; rfl; rfl; (simp only [Nat.reduceDiv, Nat.reduceMod, get_nth, nth_zero, nth_succ]; rfl)) | (apply wantTg; rfl; rfl; (simp only [Nat.reduceDiv, Nat.reduceMod, get_nth, nth_zero, nth_succ]; rfl)) | (apply wantFg; rfl; rfl; (simp only [Nat.reduceDiv, Nat.reduceMod, get_nth, nth_zero, nth_succ]; rfl)) | (apply wantU; rfl; rfl; (simp only [Nat.reduceDiv, Nat.reduceMod, get_nth, nth_zero, nth_succ]; rfl))); (first | rfl | (simp only [index_SlH EA 0 _ _ _ (hsB _), load_SlH EA 0 _ _ (hsB _), ints_len, h1, h1', nth_ints _ i h1, hnn, Bool.and_false, Bool.false_and, Bool.not_true, Bool.not_false, decide_true, decide_false, Bool.or_true, Bool.true_or, not_true_eq_false, not_false_eq_true, Bool.and_true, Bool.true_and]; done)); rfl))); done)); (focus kernel_rfl); (focus (first | (apply okPairs_kinds; (focus ((repeat (first | exact Kinds.nil | (apply Kinds.ro; (first | exact RoT.zero | exact RoT.rd | exact RoT.all | exact RoT.rdTr _ | assumption)) | apply Kinds.any)); done)); decide +kernel) | kernel_rfl)))
       | (refine V.cond rfl (fun h => ?_) (fun h => ?_) <;> (try simp only [decide_eq_true_eq, decide_eq_false_iff_not, Bool.and_eq_true, Bool.or_eq_true, Bool.and_eq_false_iff, Bool.or_eq_false_iff, Bool.not_eq_true', Bool.not_eq_false', Bool.not_true, Bool.not_false, Classical.not_not, Int.not_lt, Int.not_le, reduceCtorEq, not_true_eq_false, not_false_eq_true, decide_true, decide_false, Int.reduceEq, Int.reduceLT, Int.reduceLE] at h) <;> (try (exfalso; omega)))
       | (refine FnQ.normal (res0 Try.results4) rfl ?_; (try dsimp only))
       | (refine FnQ.ret (res0 Try.results4) rfl ?_; (try dsimp only))
       | (refine FnQ.ret (res1 Try.results4) (by simp only [Nat.reduceDiv, Nat.reduceMod, get_nth, nth_zero, nth_succ]; rfl) ?_; (try dsimp only))
       | (refine FnQ.ret (res2 Try.results4) (by simp only [Nat.reduceDiv, Nat.reduceMod, get_nth, nth_zero, nth_succ]; rfl) ?_; (try dsimp only))
       | (refine FnQ.retB (resc Try.results4) (by simp only [cellR_op, index_SlH EA 0 _ _ _ (hsB _), load_SlH EA 0 _ _ (hsB _), ints_len, h1, h1', nth_ints _ i h1, hnn, go_sem, Nat.reduceDiv, Nat.reduceMod, Nat.reduceAdd, Nat.reduceSub, Nat.reduceEqDiff, Nat.reduceLeDiff, Nat.reduceLT, Nat.reduceMul, reduceIte, Nat.reducePow, Int.reduceEq, List.toList_toArray]; rfl) ?_; (try dsimp only))
       | (refine FnQ.retB (resct Try.results4) (by simp only [cellR_op, index_SlH EA 0 _ _ _ (hsB _), load_SlH EA 0 _ _ (hsB _), ints_len, h1, h1', nth_ints _ i h1, hnn, go_sem, Nat.reduceDiv, Nat.reduceMod, Nat.reduceAdd, Nat.reduceSub, Nat.reduceEqDiff, Nat.reduceLeDiff, Nat.reduceLT, Nat.reduceMul, reduceIte, Nat.reducePow, Int.reduceEq, List.toList_toArray]; rfl) ?_; (try dsimp only)))
      apply V.lpS [9, 50, 51, 52, 53, 54, 55, 56, 57, 58, 59, 60, 61, 62, 63, 64, 65, 66, 67, 68] (fun m xs H => ∃ (k : Nat) (g : _) (Fp : Nat → Prop) (t : List Int), xs = .v (.int .i64 (D10 k)) :: g ∧ m = 7 - k ∧ k ≤ 7 ∧ One H Fp 0 2 t ∧ t.length ≤ 8 * i + 1 + k ∧ t.all validC = true ∧ (k = 7 → t ≠ []) ∧ csiArgs t = ((l.take i).map fun x => min (numOf x) 9999) ++ [min (nn / E10.getD k 0) 9999]) 7
      focus (intro xs; simp only [putMany, set2, Nat.reduceAdd, Nat.reduceDiv, Nat.reduceMod, nth_zero, nth_succ, List.set_cons_zero, List.set_cons_succ]; rfl)
      focus (first | rfl | simp only [readMany, nth_zero, nth_succ, Nat.reduceDiv, Nat.reduceMod])
      · refine ⟨0, _, _, _, rfl, rfl, by omega, hBx, by omega, hvx, fun h => by omega, ?_⟩
        rw [hax]
        have : nn / E10.getD 0 0 = 0 := Int.ediv_eq_zero_of_lt hn0 (by show nn < 10000000; omega)
        rw [this]; rfl
      · rintro m xs H ⟨k, g', Fp', t', rfl, rfl, hk, hB', htl', htv', htn', hta'⟩
        by_cases hk7 : k = 7
        · subst hk7
          have hD7 : D10 7 = 0 := rfl
          repeat' (first
           | apply V.sq
           | apply V.bl
           | apply V.sc
           | apply V.skip
           | apply V.label
           | apply V.ret
           | apply V.exit
           | apply SeqQ.normal
           | apply SeqQ.ret
           | apply SeqQ.exit
           | apply BlockQ.normal
           | apply BlockQ.ret
           | apply BlockQ.here
           | (apply BlockQ.there; decide)
           | apply LoopS.ret
           | apply LoopS.exit
           | apply LoopF.ret
           | apply LoopF.exit
           | (apply V.reg; (focus ((repeat (first
           | exact RO.nil
           | (apply RO.op; rfl; (simp only [hD7, hi1, go_sem, Nat.reduceDiv, Nat.reduceMod, Nat.reduceAdd, Nat.reduceSub, Nat.reduceEqDiff, Nat.reduceLeDiff, Nat.reduceLT, Nat.reduceMul, reduceIte, Nat.reducePow, Int.reduceEq, List.toList_toArray]; (first | rfl | (apply ite_ok; (first | assumption | rfl | omega | (refine ⟨?_, ?_⟩ <;> omega)); rfl))); rfl)
           | (apply RO.opg; (first | (apply wantT; rfl; rfl; (simp only [Nat.reduceDiv, Nat.reduceMod, get_nth, nth_zero, nth_succ]; rfl)) | (apply wantF; rfl; rfl; (simp only [Nat.reduceDiv, Nat.reduceMod, get_nth, nth_zero, nth_succ]; rfl)) | (apply wantTg; rfl; rfl; (simp only [Nat.reduceDiv, Nat.reduceMod, get_nth, nth_zero, nth_succ]; rfl)) | (apply wantFg; rfl; rfl; (simp only [Nat.reduceDiv, Nat.reduceMod, get_nth, nth_zero, nth_succ]; rfl)) | (apply wantU; rfl; rfl; (simp only [Nat.reduceDiv, Nat.reduceMod, get_nth, nth_zero, nth_succ]; rfl))); (intro h; (try simp only [Bool.and_eq_true, Bool.not_eq_true', Bool.not_eq_eq_eq_not, Bool.not_true] at h); simp only [h, hD7, hi1, go_sem, Nat.reduceDiv, Nat.reduceMod, Nat.reduceAdd, Nat.reduceSub, Nat.reduceEqDiff, Nat.reduceLeDiff, Nat.reduceLT, Nat.reduceMul, reduceIte, Nat.reducePow, Int.reduceEq, List.toList_toArray]; (first | rfl | (apply ite_ok; (first | assumption | rfl | omega | (refine ⟨?_, ?_⟩ <;> omega)); rfl))); rfl)
           | (apply RO.call; exact want0 rfl; (simp only [hD7, hi1, go_sem, Nat.reduceDiv, Nat.reduceMod, Nat.reduceAdd, Nat.reduceSub, Nat.reduceEqDiff, Nat.reduceLeDiff, Nat.reduceLT, Nat.reduceMul, reduceIte, Nat.reducePow, Int.reduceEq, List.toList_toArray]; rfl); fail; rfl)
           | (apply RO.callg; (first | (apply wantT; rfl; rfl; (simp only [Nat.reduceDiv, Nat.reduceMod, get_nth, nth_zero, nth_succ]; rfl)) | (apply wantF; rfl; rfl; (simp only [Nat.reduceDiv, Nat.reduceMod, get_nth, nth_zero, nth_succ]; rfl)) | (apply wantTg; rfl; rfl; (simp only [Nat.reduceDiv, Nat.reduceMod, get_nth, nth_zero, nth_succ]; rfl)) | (apply wantFg; rfl; rfl; (simp only [Nat.reduceDiv, Nat.reduceMod, get_nth, nth_zero, nth_succ]; rfl)) | (apply wantU; rfl; rfl; (simp only [Nat.reduceDiv, Nat.reduceMod, get_nth, nth_zero, nth_succ]; rfl))); (intro h; (try simp only [Bool.and_eq_true, Bool.not_eq_true', Bool.not_eq_eq_eq_not, Bool.not_true] at h); simp only [h, hD7, hi1, go_sem, Nat.reduceDiv, Nat.reduceMod, Nat.reduceAdd, Nat.reduceSub, Nat.reduceEqDiff, Nat.reduceLeDiff, Nat.reduceLT, Nat.reduceMul, reduceIte, Nat.reducePow, Int.reduceEq, List.toList_toArray]; rfl); (intro h; (try simp only [Bool.and_eq_true, Bool.not_eq_true', Bool.not_eq_eq_eq_not, Bool.not_true] at h); fail); rfl)
           | (apply RO.no; apply wantNo; (first | (apply wantT; rfl; rfl; (simp only [Nat.reduceDiv, Nat.reduceMod, get_nth, nth_zero, nth_succ]; rfl)) | (apply wantF; rfl; rfl; (simp only [Nat.reduceDiv, Nat.reduceMod, get_nth, nth_zero, nth_succ]; rfl)) | (apply wantTg; rfl; rfl; (simp only [Nat.reduceDiv, Nat.reduceMod, get_nth, nth_zero, nth_succ]; rfl)) | (apply wantFg; rfl; rfl; (simp only [Nat.reduceDiv, Nat.reduceMod, get_nth, nth_zero, nth_succ]; rfl)) | (apply wantU; rfl; rfl; (simp only [Nat.reduceDiv, Nat.reduceMod, get_nth, nth_zero, nth_succ]; rfl))); (first | rfl | (simp only [hD7, hi1, Bool.and_false, Bool.false_and, Bool.not_true, Bool.not_false, decide_true, decide_false, Bool.or_true, Bool.true_or, not_true_eq_false, not_false_eq_true, Bool.and_true, Bool.true_and]; done)); rfl))); done)))
           | (apply V.regd; (focus ((repeat (first
           | exact RO.nil
           | (apply RO.op; rfl; (simp only [hD7, hi1, go_sem, Nat.reduceDiv, Nat.reduceMod, Nat.reduceAdd, Nat.reduceSub, Nat.reduceEqDiff, Nat.reduceLeDiff, Nat.reduceLT, Nat.reduceMul, reduceIte, Nat.reducePow, Int.reduceEq, List.toList_toArray]; (first | rfl | (apply ite_ok; (first | assumption | rfl | omega | (refine ⟨?_, ?_⟩ <;> omega)); rfl))); rfl)
           | (apply RO.opg; (first | (apply wantT; rfl; rfl; (simp only [Nat.reduceDiv, Nat.reduceMod, get_nth, nth_zero, nth_succ]; rfl)) | (apply wantF; rfl; rfl; (simp only [Nat.reduceDiv, Nat.reduceMod, get_nth, nth_zero, nth_succ]; rfl)) | (apply wantTg; rfl; rfl; (simp only [Nat.reduceDiv, Nat.reduceMod, get_nth, nth_zero, nth_succ]; rfl)) | (apply wantFg; rfl; rfl; (simp only [Nat.reduceDiv, Nat.reduceMod, get_nth, nth_zero, nth_succ]; rfl)) | (apply wantU; rfl; rfl; (simp only [Nat.reduceDiv, Nat.reduceMod, get_nth, nth_zero, nth_succ]; rfl))); (intro h; (try simp only [Bool.and_eq_true, Bool.not_eq_true', Bool.not_eq_eq_eq_not, Bool.not_true] at h); simp only [h, hD7, hi1, go_sem, Nat.reduceDiv, Nat.reduceMod, Nat.reduceAdd, Nat.reduceSub, Nat.reduceEqDiff, Nat.reduceLeDiff, Nat.reduceLT, Nat.reduceMul, reduceIte, Nat.reducePow, Int.reduceEq, List.toList_toArray]; (first | rfl | (apply ite_ok; (first | assumption | rfl | omega | (refine ⟨?_, ?_⟩ <;> omega)); rfl))); rfl)
           | (apply RO.call; exact want0 rfl; (simp only [hD7, hi1, go_sem, Nat.reduceDiv, Nat.reduceMod, Nat.reduceAdd, Nat.reduceSub, Nat.reduceEqDiff, Nat.reduceLeDiff, Nat.reduceLT, Nat.reduceMul, reduceIte, Nat.reducePow, Int.reduceEq, List.toList_toArray]; rfl); fail; rfl)
           | (apply RO.callg; (first | (apply wantT; rfl; rfl; (simp only [Nat.reduceDiv, Nat.reduceMod, get_nth, nth_zero, nth_succ]; rfl)) | (apply wantF; rfl; rfl; (simp only [Nat.reduceDiv, Nat.reduceMod, get_nth, nth_zero, nth_succ]; rfl)) | (apply wantTg; rfl; rfl; (simp only [Nat.reduceDiv, Nat.reduceMod, get_nth, nth_zero, nth_succ]; rfl)) | (apply wantFg; rfl; rfl; (simp only [Nat.reduceDiv, Nat.reduceMod, get_nth, nth_zero, nth_succ]; rfl)) | (apply wantU; rfl; rfl; (simp only [Nat.reduceDiv, Nat.reduceMod, get_nth, nth_zero, nth_succ]; rfl))); (intro h; (try simp only [Bool.and_eq_true, Bool.not_eq_true', Bool.not_eq_eq_eq_not, Bool.not_true] at h); simp only [h, hD7, hi1, go_sem, Nat.reduceDiv, Nat.reduceMod, Nat.reduceAdd, Nat.reduceSub, Nat.reduceEqDiff, Nat.reduceLeDiff, Nat.reduceLT, Nat.reduceMul, reduceIte, Nat.reducePow, Int.reduceEq, List.toList_toArray]; rfl); (intro h; (try simp only [Bool.and_eq_true, Bool.not_eq_true', Bool.not_eq_eq_eq_not, Bool.not_true] at h); fail); rfl)
           | (apply RO.no; apply wantNo; (first | (apply wantT; rfl; rfl; (simp only [Nat.reduceDiv, Nat.reduceMod, get_nth, nth_zero, nth_succ]; rfl)) | (apply wantF; rfl; rfl; (simp only [Nat.reduceDiv, Nat.reduceMod, get_nth, nth_zero, nth_succ]; rfl)) | (apply wantTg; rfl; rfl; (simp only [Nat.reduceDiv, Nat.reduceMod, get_nth, nth_zero, nth_succ]; rfl)) | (apply wantFg; rfl; rfl; (simp only [Nat.reduceDiv, Nat.reduceMod, get_nth, nth_zero, nth_succ]; rfl)) | (apply wantU; rfl; rfl; (simp only [Nat.reduceDiv, Nat.reduceMod, get_nth, nth_zero, nth_succ]; rfl))); (first | rfl | (simp only [hD7, hi1, Bool.and_false, Bool.false_and, Bool.not_true, Bool.not_false, decide_true, decide_false, Bool.or_true, Bool.true_or, not_true_eq_false, not_false_eq_true, Bool.and_true, Bool.true_and]; done)); rfl))); done)); (focus kernel_rfl); (focus (first | (apply okPairs_kinds; (focus ((repeat (first | exact Kinds.nil | (apply Kinds.ro; (first | exact RoT.zero | exact RoT.rd | exact RoT.all | exact RoT.rdTr _ | assumption)) | apply Kinds.any)); done)); decide +kernel) | kernel_rfl)))
           | (refine V.cond rfl (fun h => ?_) (fun h => ?_) <;> (try simp only [decide_eq_true_eq, decide_eq_false_iff_not, Bool.and_eq_true, Bool.or_eq_true, Bool.and_eq_false_iff, Bool.or_eq_false_iff, Bool.not_eq_true', Bool.not_eq_false', Bool.not_true, Bool.not_false, Classical.not_not, Int.not_lt, Int.not_le, reduceCtorEq, not_true_eq_false, not_false_eq_true, decide_true, decide_false, Int.reduceEq, Int.reduceLT, Int.reduceLE] at h) <;> (try (exfalso; omega)))
           | (refine FnQ.normal (res0 Try.results4) rfl ?_; (try dsimp only))
           | (refine FnQ.ret (res0 Try.results4) rfl ?_; (try dsimp only))
           | (refine FnQ.ret (res1 Try.results4) (by simp only [Nat.reduceDiv, Nat.reduceMod, get_nth, nth_zero, nth_succ]; rfl) ?_; (try dsimp only))
           | (refine FnQ.ret (res2 Try.results4) (by simp only [Nat.reduceDiv, Nat.reduceMod, get_nth, nth_zero, nth_succ]; rfl) ?_; (try dsimp only))
           | (refine FnQ.retB (resc Try.results4) (by simp only [cellR_op, hD7, hi1, go_sem, Nat.reduceDiv, Nat.reduceMod, Nat.reduceAdd, Nat.reduceSub, Nat.reduceEqDiff, Nat.reduceLeDiff, Nat.reduceLT, Nat.reduceMul, reduceIte, Nat.reducePow, Int.reduceEq, List.toList_toArray]; rfl) ?_; (try dsimp only))
           | (refine FnQ.retB (resct Try.results4) (by simp only [cellR_op, hD7, hi1, go_sem, Nat.reduceDiv, Nat.reduceMod, Nat.reduceAdd, Nat.reduceSub, Nat.reduceEqDiff, Nat.reduceLeDiff, Nat.reduceLT, Nat.reduceMul, reduceIte, Nat.reducePow, Int.reduceEq, List.toList_toArray]; rfl) ?_; (try dsimp only)))
          refine LoopS.again (l.length - (i + 1)) (by rfl) (by omega) ⟨i + 1, _, Fp', t', rfl, rfl, by omega, hB', by omega, htv', ?_⟩
          rw [if_neg (by omega)]
          refine ⟨htn' rfl, ?_⟩
          rw [hta', et, List.map_append, List.map_cons, List.map_nil, hnum]
          have : nn / E10.getD 7 0 = nn := Int.ediv_one nn
          rw [this]
        · obtain ⟨d1, d2, d3, d4, d5⟩ := D10_facts k (by omega)
          have hdn : ¬ D10 k = 0 := by omega
          have hw1 : IntKind.i64.wrap ((D10 k).tdiv 10) = D10 (k + 1) := by rw [d5]; exact IntWalk.i64_in _ (by
            by_cases h : k + 1 < 7
            · have := (D10_facts (k + 1) h); omega
            · have : D10 (k + 1) = 0 := if_neg h
              omega)
          have q0 : 0 ≤ nn / D10 k := Int.ediv_nonneg hn0 (by omega)
          have q1 : nn / D10 k ≤ nn := Int.ediv_le_self _ hn0
          have e1 : nn.tdiv (D10 k) = nn / D10 k := Int.tdiv_eq_ediv_of_nonneg hn0
          have e2 := IntWalk.i64_in (nn / D10 k) (by omega)
          have e3 : (nn / D10 k).tmod 10 = nn / D10 k % 10 := Int.tmod_eq_emod_of_nonneg q0
          have e4 := IntWalk.i64_in (48 + nn / D10 k % 10) (by omega)
          have e5 := IntWalk.i32_in (48 + nn / D10 k % 10) (by omega)
          obtain ⟨R, H3, F3, hc3, hB3, hE3, -⟩ := hB'.step (ys := []) (48 + nn / D10 k % 10) (by omega) (by omega)
          rw [put_digit t' _ (.inr (by omega))] at hB3 hE3
          have hE3' : R = .v (.slice none 0 0) := hE3
          subst hE3'
          have hdig : csiArgs (t' ++ [48 + nn / D10 k % 10]) = ((l.take i).map fun x => min (numOf x) 9999) ++ [min (nn / E10.getD (k + 1) 0) 9999] := by
            rw [csiArgs_snoc, hta', stepArgs_digit _ _ _ (by omega), d3, d4, ← digit_min nn (D10 k) d1 hn0]
            congr 3
            omega
          have hvd : (t' ++ [48 + nn / D10 k % 10]).all validC = true := by
            rw [List.all_append, htv']
            have : validC (48 + nn / D10 k % 10) = true := decide_eq_true (by omega)
            simp [this]
          have hle := d1
          repeat' (first
           | apply V.sq
           | apply V.bl
           | apply V.sc
           | apply V.skip
           | apply V.label
           | apply V.ret
           | apply V.exit
           | apply SeqQ.normal
           | apply SeqQ.ret
           | apply SeqQ.exit
           | apply BlockQ.normal
           | apply BlockQ.ret
           | apply BlockQ.here
           | (apply BlockQ.there; decide)
           | apply LoopS.ret
           | apply LoopS.exit
           | apply LoopF.ret
           | apply LoopF.exit
           | (apply V.reg; (focus ((repeat (first
           | exact RO.nil
           | (apply RO.op; rfl; (simp only [hdn, e1, e2, e3, e4, e5, hw1, go_sem, Nat.reduceDiv, Nat.reduceMod, Nat.reduceAdd, Nat.reduceSub, Nat.reduceEqDiff, Nat.reduceLeDiff, Nat.reduceLT, Nat.reduceMul, reduceIte, Nat.reducePow, Int.reduceEq, List.toList_toArray]; (first | rfl | (apply ite_ok; (first | assumption | rfl | omega | (refine ⟨?_, ?_⟩ <;> omega)); rfl))); rfl)
           | (apply RO.opg; (first | (apply wantT; rfl; rfl; (simp only [Nat.reduceDiv, Nat.reduceMod, get_nth, nth_zero, nth_succ]; rfl)) | (apply wantF; rfl; rfl; (simp only [Nat.reduceDiv, Nat.reduceMod, get_nth, nth_zero, nth_succ]; rfl)) | (apply wantTg; rfl; rfl; (simp only [Nat.reduceDiv, Nat.reduceMod, get_nth, nth_zero, nth_succ]; rfl)) | (apply wantFg; rfl; rfl; (simp only [Nat.reduceDiv, Nat.reduceMod, get_nth, nth_zero, nth_succ]; rfl)) | (apply wantU; rfl; rfl; (simp only [Nat.reduceDiv, Nat.reduceMod, get_nth, nth_zero, nth_succ]; rfl))); (intro h; (try simp only [Bool.and_eq_true, Bool.not_eq_true', Bool.not_eq_eq_eq_not, Bool.not_true] at h); simp only [h, hdn, e1, e2, e3, e4, e5, hw1, go_sem, Nat.reduceDiv, Nat.reduceMod, Nat.reduceAdd, Nat.reduceSub, Nat.reduceEqDiff, Nat.reduceLeDiff, Nat.reduceLT, Nat.reduceMul, reduceIte, Nat.reducePow, Int.reduceEq, List.toList_toArray]; (first | rfl | (apply ite_ok; (first | assumption | rfl | omega | (refine ⟨?_, ?_⟩ <;> omega)); rfl))); rfl)
           | (apply RO.call; exact want0 rfl; (simp only [hdn, e1, e2, e3, e4, e5, hw1, go_sem, Nat.reduceDiv, Nat.reduceMod, Nat.reduceAdd, Nat.reduceSub, Nat.reduceEqDiff, Nat.reduceLeDiff, Nat.reduceLT, Nat.reduceMul, reduceIte, Nat.reducePow, Int.reduceEq, List.toList_toArray]; rfl); (first | (apply hc3 <;> (first | assumption | rfl | omega | (refine ⟨?_, ?_⟩ <;> omega)))); rfl)
           | (apply RO.callg; (first | (apply wantT; rfl; rfl; (simp only [Nat.reduceDiv, Nat.reduceMod, get_nth, nth_zero, nth_succ]; rfl)) | (apply wantF; rfl; rfl; (simp only [Nat.reduceDiv, Nat.reduceMod, get_nth, nth_zero, nth_succ]; rfl)) | (apply wantTg; rfl; rfl; (simp only [Nat.reduceDiv, Nat.reduceMod, get_nth, nth_zero, nth_succ]; rfl)) | (apply wantFg; rfl; rfl; (simp only [Nat.reduceDiv, Nat.reduceMod, get_nth, nth_zero, nth_succ]; rfl)) | (apply wantU; rfl; rfl; (simp only [Nat.reduceDiv, Nat.reduceMod, get_nth, nth_zero, nth_succ]; rfl))); (intro h; (try simp only [Bool.and_eq_true, Bool.not_eq_true', Bool.not_eq_eq_eq_not, Bool.not_true] at h); simp only [h, hdn, e1, e2, e3, e4, e5, hw1, go_sem, Nat.reduceDiv, Nat.reduceMod, Nat.reduceAdd, Nat.reduceSub, Nat.reduceEqDiff, Nat.reduceLeDiff, Nat.reduceLT, Nat.reduceMul, reduceIte, Nat.reducePow, Int.reduceEq, List.toList_toArray]; rfl); (intro h; (try simp only [Bool.and_eq_true, Bool.not_eq_true', Bool.not_eq_eq_eq_not, Bool.not_true] at h); (first | (apply hc3 <;> (first | assumption | rfl | omega | (refine ⟨?_, ?_⟩ <;> omega))))); rfl)
           | (apply RO.no; apply wantNo; (first | (apply wantT; rfl; rfl; (simp only [Nat.reduceDiv, Nat.reduceMod, get_nth, nth_zero, nth_succ]; rfl)) | (apply wantF; rfl; rfl; (simp only [Nat.reduceDiv, Nat.reduceMod, get_nth, nth_zero, nth_succ]; rfl)) | (apply wantTg; rfl; rfl; (simp only [Nat.reduceDiv, Nat.reduceMod, get_nth, nth_zero, nth_succ]; rfl)) | (apply wantFg; rfl; rfl; (simp only [Nat.reduceDiv, Nat.reduceMod, get_nth, nth_zero, nth_succ]; rfl)) | (apply wantU; rfl; rfl; (simp only [Nat.reduceDiv, Nat.reduceMod, get_nth, nth_zero, nth_succ]; rfl))); (first | rfl | (simp only [hdn, e1, e2, e3, e4, e5, hw1, Bool.and_false, Bool.false_and, Bool.not_true, Bool.not_false, decide_true, decide_false, Bool.or_true, Bool.true_or, not_true_eq_false, not_false_eq_true, Bool.and_true, Bool.true_and]; done)); rfl))); done)))
           | (apply V.regd; (focus ((repeat (first
           | exact RO.nil
           | (apply RO.op; rfl; (simp only [hdn, e1, e2, e3, e4, e5, hw1, go_sem, Nat.reduceDiv, Nat.reduceMod, Nat.reduceAdd, Nat.reduceSub, Nat.reduceEqDiff, Nat.reduceLeDiff, Nat.reduceLT, Nat.reduceMul, reduceIte, Nat.reducePow, Int.reduceEq, List.toList_toArray]; (first | rfl | (apply ite_ok; (first | assumption | rfl | omega | (refine ⟨?_, ?_⟩ <;> omega)); rfl))); rfl)
           | (apply RO.opg; (first | (apply wantT; rfl; rfl; (simp only [Nat.reduceDiv, Nat.reduceMod, get_nth, nth_zero, nth_succ]; rfl)) | (apply wantF; rfl; rfl; (simp only [Nat.reduceDiv, Nat.reduceMod, get_nth, nth_zero, nth_succ]; rfl)) | (apply wantTg; rfl; rfl; (simp only [Nat.reduceDiv, Nat.reduceMod, get_nth, nth_zero, nth_succ]; rfl)) | (apply wantFg; rfl; rfl; (simp only [Nat.reduceDiv, Nat.reduceMod, get_nth, nth_zero, nth_succ]; rfl)) | (apply wantU; rfl; rfl; (simp only [Nat.reduceDiv, Nat.reduceMod, get_nth, nth_zero, nth_succ]; rfl))); (intro h; (try simp only [Bool.and_eq_true, Bool.not_eq_true', Bool.not_eq_eq_eq_not, Bool.not_true] at h); simp only [h, hdn, e1, e2, e3, e4, e5, hw1, go_sem, Nat.reduceDiv, Nat.reduceMod, Nat.reduceAdd, Nat.reduceSub, Nat.reduceEqDiff, Nat.reduceLeDiff, Nat.reduceLT, Nat.reduceMul, reduceIte, Nat.reducePow, Int.reduceEq, List.toList_toArray]; (first | rfl | (apply ite_ok; (first | assumption | rfl | omega | (refine ⟨?_, ?_⟩ <;> omega)); rfl))); rfl)
           | (apply RO.call; exact want0 rfl; (simp only [hdn, e1, e2, e3, e4, e5, hw1, go_sem, Nat.reduceDiv, Nat.reduceMod, Nat.reduceAdd, Nat.reduceSub, Nat.reduceEqDiff, Nat.reduceLeDiff, Nat.reduceLT, Nat.reduceMul, reduceIte, Nat.reducePow, Int.reduceEq, List.toList_toArray]; rfl); (first | (apply hc3 <;> (first | assumption | rfl | omega | (refine ⟨?_, ?_⟩ <;> omega)))); rfl)
           | (apply RO.callg; (first | (apply wantT; rfl; rfl; (simp only [Nat.reduceDiv, Nat.reduceMod, get_nth, nth_zero, nth_succ]; rfl)) | (apply wantF; rfl; rfl; (simp only [Nat.reduceDiv, Nat.reduceMod, get_nth, nth_zero, nth_succ]; rfl)) | (apply wantTg; rfl; rfl; (simp only [Nat.reduceDiv, Nat.reduceMod, get_nth, nth_zero, nth_succ]; rfl)) | (apply wantFg; rfl; rfl; (simp only [Nat.reduceDiv, Nat.reduceMod, get_nth, nth_zero, nth_succ]; rfl)) | (apply wantU; rfl; rfl; (simp only [Nat.reduceDiv, Nat.reduceMod, get_nth, nth_zero, nth_succ]; rfl))); (intro h; (try simp only [Bool.and_eq_true, Bool.not_eq_true', Bool.not_eq_eq_eq_not, Bool.not_true] at h); simp only [h, hdn, e1, e2, e3, e4, e5, hw1, go_sem, Nat.reduceDiv, Nat.reduceMod, Nat.reduceAdd, Nat.reduceSub, Nat.reduceEqDiff, Nat.reduceLeDiff, Nat.reduceLT, Nat.reduceMul, reduceIte, Nat.reducePow, Int.reduceEq, List.toList_toArray]; rfl); (intro h; (try simp only [Bool.and_eq_true, Bool.not_eq_true', Bool.not_eq_eq_eq_not, Bool.not_true] at h); (first | (apply hc3 <;> (first | assumption | rfl | omega | (refine ⟨?_, ?_⟩ <;> omega))))); rfl)
           | (apply RO.no; apply wantNo; (first | (apply wantT; rfl; rfl; (simp only [Nat.reduceDiv, Nat.reduceMod, get_nth, nth_zero, nth_succ]; rfl)) | (apply wantF; rfl; rfl; (simp only [Nat.reduceDiv, Nat.reduceMod, get_nth, nth_zero, nth_succ]; rfl)) | (apply wantTg; rfl; rfl; (simp only [Nat.reduceDiv, Nat.reduceMod, get_nth, nth_zero, nth_succ]; rfl)) | (apply wantFg; rfl; rfl; (simp only [Nat.reduceDiv, Nat.reduceMod, get_nth, nth_zero, nth_succ]; rfl)) | (apply wantU; rfl; rfl; (simp only [Nat.reduceDiv, Nat.reduceMod, get_nth, nth_zero, nth_succ]; rfl))); (first | rfl | (simp only [hdn, e1, e2, e3, e4, e5, hw1, Bool.and_false, Bool.false_and, Bool.not_true, Bool.not_false, decide_true, decide_false, Bool.or_true, Bool.true_or, not_true_eq_false, not_false_eq_true, Bool.and_true, Bool.true_and]; done)); rfl))); done)); (focus kernel_rfl); (focus (first | (apply okPairs_kinds; (focus ((repeat (first | exact Kinds.nil | (apply Kinds.ro; (first | exact RoT.zero | exact RoT.rd | exact RoT.all | exact RoT.rdTr _ | assumption)) | apply Kinds.any)); done)); decide +kernel) | kernel_rfl)))
           | (refine V.cond rfl (fun h => ?_) (fun h => ?_) <;> (try simp only [decide_eq_true_eq, decide_eq_false_iff_not, Bool.and_eq_true, Bool.or_eq_true, Bool.and_eq_false_iff, Bool.or_eq_false_iff, Bool.not_eq_true', Bool.not_eq_false', Bool.not_true, Bool.not_false, Classical.not_not, Int.not_lt, Int.not_le, reduceCtorEq, not_true_eq_false, not_false_eq_true, decide_true, decide_false, Int.reduceEq, Int.reduceLT, Int.reduceLE] at h) <;> (try (exfalso; omega)))
           | (refine FnQ.normal (res0 Try.results4) rfl ?_; (try dsimp only))
           | (refine FnQ.ret (res0 Try.results4) rfl ?_; (try dsimp only))
           | (refine FnQ.ret (res1 Try.results4) (by simp only [Nat.reduceDiv, Nat.reduceMod, get_nth, nth_zero, nth_succ]; rfl) ?_; (try dsimp only))
           | (refine FnQ.ret (res2 Try.results4) (by simp only [Nat.reduceDiv, Nat.reduceMod, get_nth, nth_zero, nth_succ]; rfl) ?_; (try dsimp only))
           | (refine FnQ.retB (resc Try.results4) (by simp only [cellR_op, hdn, e1, e2, e3, e4, e5, hw1, go_sem, Nat.reduceDiv, Nat.reduceMod, Nat.reduceAdd, Nat.reduceSub, Nat.reduceEqDiff, Nat.reduceLeDiff, Nat.reduceLT, Nat.reduceMul, reduceIte, Nat.reducePow, Int.reduceEq, List.toList_toArray]; rfl) ?_; (try dsimp only))
           | (refine FnQ.retB (resct Try.results4) (by simp only [cellR_op, hdn, e1, e2, e3, e4, e5, hw1, go_sem, Nat.reduceDiv, Nat.reduceMod, Nat.reduceAdd, Nat.reduceSub, Nat.reduceEqDiff, Nat.reduceLeDiff, Nat.reduceLT, Nat.reduceMul, reduceIte, Nat.reducePow, Int.reduceEq, List.toList_toArray]; rfl) ?_; (try dsimp only)))
          · exact LoopS.again (7 - (k + 1)) (by rfl) (by omega) ⟨k + 1, _, F3, _, rfl, rfl, by omega, hB3, by rw [List.length_append, List.length_singleton]; omega, hvd, fun _ => by simp, hdig⟩
          · have hz : nn / D10 k = 0 := Int.ediv_eq_zero_of_lt hn0 (by omega)
            refine LoopS.again (7 - (k + 1)) (by rfl) (by omega) ⟨k + 1, _, Fp', t', rfl, rfl, by omega, hB', by omega, htv', fun h => ?_, ?_⟩
            · have : k = 6 := by omega
              subst this
              have hD6 : D10 6 = 1 := rfl
              omega
            · rw [hta', d4, hz, d3, edd nn _ d1, hz]
              rfl
    · have hi0 : i = 0 := by omega
      rw [if_pos hi0] at hta
      have hBx := hB
      have hvx := htv
      have hax : csiArgs t = ((l.take i).map fun x => min (numOf x) 9999) ++ [0] := by rw [hta, hi0]; rfl
      have h1 : i < l.length := by omega
      have h1' : (i : Int) < (l.length : Int) := by omega
      have hxr := hrl (l.getD i 0) (by rw [List.getD_eq_getElem?_getD, List.getElem?_eq_getElem h1]; exact List.getElem_mem h1)
      have g1 := Int.tmod_lt_of_pos (l.getD i 0) (show (0 : Int) < 1000000 by decide)
      obtain ⟨nn, hnn, hn0, hn1⟩ : ∃ nn : Int, max 0 ((l.getD i 0).tmod 1000000) = nn ∧ 0 ≤ nn ∧ nn < 1000000 := ⟨_, rfl, by omega, by omega⟩
      have hnum : numOf (l.getD i 0) = nn := hnn
      have et : l.take (i + 1) = l.take i ++ [l.getD i 0] := by
        rw [List.take_add_one, List.getD_eq_getElem?_getD, List.getElem?_eq_getElem h1]; rfl
      have hi1 := i64n i (by omega)
      repeat' (first
       | apply V.sq
       | apply V.bl
       | apply V.sc
       | apply V.skip
       | apply V.label
       | apply V.ret
       | apply V.exit
       | apply SeqQ.normal
       | apply SeqQ.ret
       | apply SeqQ.exit
       | apply BlockQ.normal
       | apply BlockQ.ret
       | apply BlockQ.here
       | (apply BlockQ.there; decide)
       | apply LoopS.ret
       | apply LoopS.exit
       | apply LoopF.ret
       | apply LoopF.exit
       | (apply V.reg; (focus ((repeat (first
       | exact RO.nil
       | (apply RO.op; rfl; (simp only [index_SlH EA 0 _ _ _ (hsB _), load_SlH EA 0 _ _ (hsB _), ints_len, h1, h1', nth_ints _ i h1, hnn, go_sem, Nat.reduceDiv, Nat.reduceMod, Nat.reduceAdd, Nat.reduceSub, Nat.reduceEqDiff, Nat.reduceLeDiff, Nat.reduceLT, Nat.reduceMul, reduceIte, Nat.reducePow, Int.reduceEq, List.toList_toArray]; (first | rfl | (apply ite_ok; (first | assumption | rfl | omega | (refine ⟨?_, ?_⟩ <;> omega)); rfl))); rfl)
       | (apply RO.opg; (first | (apply wantT; rfl; rfl; (simp only [Nat.reduceDiv, Nat.reduceMod, get_nth, nth_zero, nth_succ]; rfl)) | (apply wantF; rfl; rfl; (simp only [Nat.reduceDiv, Nat.reduceMod, get_nth, nth_zero, nth_succ]; rfl)) | (apply wantTg; rfl; rfl; (simp only [Nat.reduceDiv, Nat.reduceMod, get_nth, nth_zero, nth_succ]; rfl)) | (apply wantFg; rfl; rfl; (simp only [Nat.reduceDiv, Nat.reduceMod, get_nth, nth_zero, nth_succ]; rfl)) | (apply wantU; rfl; rfl; (simp only [Nat.reduceDiv, Nat.reduceMod, get_nth, nth_zero, nth_succ]; rfl))); (intro h; (try simp only [Bool.and_eq_true, Bool.not_eq_true', Bool.not_eq_eq_eq_not, Bool.not_true] at h); simp only [h, index_SlH EA 0 _ _ _ (hsB _), load_SlH EA 0 _ _ (hsB _), ints_len, h1, h1', nth_ints _ i h1, hnn, go_sem, Nat.reduceDiv, Nat.reduceMod, Nat.reduceAdd, Nat.reduceSub, Nat.reduceEqDiff, Nat.reduceLeDiff, Nat.reduceLT, Nat.reduceMul, reduceIte, Nat.reducePow, Int.reduceEq, List.toList_toArray]; (first | rfl | (apply ite_ok; (first | assumption | rfl | omega | (refine ⟨?_, ?_⟩ <;> omega)); rfl))); rfl)
       | (apply RO.call; exact want0 rfl; (simp only [index_SlH EA 0 _ _ _ (hsB _), load_SlH EA 0 _ _ (hsB _), ints_len, h1, h1', nth_ints _ i h1, hnn, go_sem, Nat.reduceDiv, Nat.reduceMod, Nat.reduceAdd, Nat.reduceSub, Nat.reduceEqDiff, Nat.reduceLeDiff, Nat.reduceLT, Nat.reduceMul, reduceIte, Nat.reducePow, Int.reduceEq, List.toList_toArray]; rfl); fail; rfl)
       | (apply RO.callg; (first | (apply wantT; rfl; rfl; (simp only [Nat.reduceDiv, Nat.reduceMod, get_nth, nth_zero, nth_succ]; rfl)) | (apply wantF; rfl; rfl; (simp only [Nat.reduceDiv, Nat.reduceMod, get_nth, nth_zero, nth_succ]; rfl)) | (apply wantTg; rfl; rfl; (simp only [Nat.reduceDiv, Nat.reduceMod, get_nth, nth_zero, nth_succ]; rfl)) | (apply wantFg; rfl; rfl; (simp only [Nat.reduceDiv, Nat.reduceMod, get_nth, nth_zero, nth_succ]; rfl)) | (apply wantU; rfl; rfl; (simp only [Nat.reduceDiv, Nat.reduceMod, get_nth, nth_zero, nth_succ]; rfl))); (intro h; (try simp only [Bool.and_eq_true, Bool.not_eq_true', Bool.not_eq_eq_eq_not, Bool.not_true] at h); simp only [h, index_SlH EA 0 _ _ _ (hsB _), load_SlH EA 0 _ _ (hsB _), ints_len, h1, h1', nth_ints _ i h1, hnn, go_sem, Nat.reduceDiv, Nat.reduceMod, Nat.reduceAdd, Nat.reduceSub, Nat.reduceEqDiff, Nat.reduceLeDiff, Nat.reduceLT, Nat.reduceMul, reduceIte, Nat.reducePow, Int.reduceEq, List.toList_toArray]; rfl); (intro h; (try simp only [Bool.and_eq_true, Bool.not_eq_true', Bool.not_eq_eq_eq_not, Bool.not_true] at h); fail); rfl)
       | (apply RO.no; apply wantNo; (first | (apply wantT; rfl; rfl; (simp only [Nat.reduceDiv, Nat.reduceMod, get_nth, nth_zero, nth_succ]; rfl)) | (apply wantF; rfl; rfl; (simp only [Nat.reduceDiv, Nat.reduceMod, get_nth, nth_zero, nth_succ]; rfl)) | (apply wantTg; rfl; rfl; (simp only [Nat.reduceDiv, Nat.reduceMod, get_nth, nth_zero, nth_succ]; rfl)) | (apply wantFg; rfl; rfl; (simp only [Nat.reduceDiv, Nat.reduceMod, get_nth, nth_zero, nth_succ]; rfl)) | (apply wantU; rfl; rfl; (simp only [Nat.reduceDiv, Nat.reduceMod, get_nth, nth_zero, nth_succ]; rfl))); (first | rfl | (simp only [index_SlH EA 0 _ _ _ (hsB _), load_SlH EA 0 _ _ (hsB _), ints_len, h1, h1', nth_ints _ i h1, hnn, Bool.and_false, Bool.false_and, Bool.not_true, Bool.not_false, decide_true, decide_false, Bool.or_true, Bool.true_or, not_true_eq_false, not_false_eq_true, Bool.and_true, Bool.true_and]; done)); rfl))); done)))
       | (apply V.regd; (focus ((repeat (first
       | exact RO.nil
       | (apply RO.op; rfl; (simp only [index_SlH EA 0 _ _ _ (hsB _), load_SlH EA 0 _ _ (hsB _), ints_len, h1, h1', nth_ints _ i h1, hnn, go_sem, Nat.reduceDiv, Nat.reduceMod, Nat.reduceAdd, Nat.reduceSub, Nat.reduceEqDiff, Nat.reduceLeDiff, Nat.reduceLT, Nat.reduceMul, reduceIte, Nat.reducePow, Int.reduceEq, List.toList_toArray]; (first | rfl | (apply ite_ok; (first | assumption | rfl | omega | (refine ⟨?_, ?_⟩ <;> omega)); rfl))); rfl)
       | (apply RO.opg; (first | (apply wantT; rfl; rfl; (simp only [Nat.reduceDiv, Nat.reduceMod, get_nth, nth_zero, nth_succ]; rfl)) | (apply wantF; rfl; rfl; (simp only [Nat.reduceDiv, Nat.reduceMod, get_nth, nth_zero, nth_succ]; rfl)) | (apply wantTg; rfl; rfl; (simp only [Nat.reduceDiv, Nat.reduceMod, get_nth, nth_zero, nth_succ]; rfl)) | (apply wantFg; rfl; rfl; (simp only [Nat.reduceDiv, Nat.reduceMod, get_nth, nth_zero, nth_succ]; rfl)) | (apply wantU; rfl; rfl; (simp only [Nat.reduceDiv, Nat.reduceMod, get_nth, nth_zero, nth_succ]; rfl))); (intro h; (try simp only [Bool.and_eq_true, Bool.not_eq_true', Bool.not_eq_eq_eq_not, Bool.not_true] at h); simp only [h, index_SlH EA 0 _ _ _ (hsB _), load_SlH EA 0 _ _ (hsB _), ints_len, h1, h1', nth_ints _ i h1, hnn, go_sem, Nat.reduceDiv, Nat.reduceMod, Nat.reduceAdd, Nat.reduceSub, Nat.reduceEqDiff, Nat.reduceLeDiff, Nat.reduceLT, Nat.reduceMul, reduceIte, Nat.reducePow, Int.reduceEq, List.toList_toArray]; (first | rfl | (apply ite_ok; (first | assumption | rfl | omega | (refine ⟨?_, ?_⟩ <;> omega)); rfl))); rfl)
       | (apply RO.call; exact want0 rfl; (simp only [index_SlH EA 0 _ _ _ (hsB _), load_SlH EA 0 _ _ (hsB _), ints_len, h1, h1', nth_ints _ i h1, hnn, go_sem, Nat.reduceDiv, Nat.reduceMod, Nat.reduceAdd, Nat.reduceSub, Nat.reduceEqDiff, Nat.reduceLeDiff, Nat.reduceLT, Nat.reduceMul, reduceIte, Nat.reducePow, Int.reduceEq, List.toList_toArray]; rfl); fail; rfl)
       | (apply RO.callg; (first | (apply wantT; rfl; rfl; (simp only [Nat.reduceDiv, Nat.reduceMod, get_nth, nth_zero, nth_succ]; rfl)) | (apply wantF; rfl; rfl; (simp only [Nat.reduceDiv, Nat.reduceMod, get_nth, nth_zero, nth_succ]; rfl)) | (apply wantTg; rfl; rfl; (simp only [Nat.reduceDiv, Nat.reduceMod, get_nth, nth_zero, nth_succ]; rfl)) | (apply wantFg; rfl; rfl; (simp only [Nat.reduceDiv, Nat.reduceMod, get_nth, nth_zero, nth_succ]; rfl)) | (apply wantU; rfl; rfl; (simp only [Nat.reduceDiv, Nat.reduceMod, get_nth, nth_zero, nth_succ]; rfl))); (intro h; (try simp only [Bool.and_eq_true, Bool.not_eq_true', Bool.not_eq_eq_eq_not, Bool.not_true] at h); simp only [h, index_SlH EA 0 _ _ _ (hsB _), load_SlH EA 0 _ _ (hsB _), ints_len, h1, h1', nth_ints _ i h1, hnn, go_sem, Nat.reduceDiv, Nat.reduceMod, Nat.reduceAdd, Nat.reduceSub, Nat.reduceEqDiff, Nat.reduceLeDiff, Nat.reduceLT, Nat.reduceMul, reduceIte, Nat.reducePow, Int.reduceEq, List.toList_toArray]; rfl); (intro h; (try simp only [Bool.and_eq_true, Bool.not_eq_true', Bool.not_eq_eq_eq_not, Bool.not_true] at h); fail); rfl)
       | (apply RO.no; apply wantNo; (first | (apply wantT; rfl; rfl; (simp only [Nat.reduceDiv, Nat.reduceMod, get_nth, nth_zero, nth_succ]; rfl)) | (apply wantF; rfl; rfl; (simp only [Nat.reduceDiv, Nat.reduceMod, get_nth, nth_zero, nth_succ]; rfl)) | (apply wantTg; rfl; rfl; (simp only [Nat.reduceDiv, Nat.reduceMod, get_nth, nth_zero, nth_succ]; rfl)) | (apply wantFg; rfl; rfl; (simp only [Nat.reduceDiv, Nat.reduceMod, get_nth, nth_zero, nth_succ]; rfl)) | (apply wantU; rfl; rfl; (simp only [Nat.reduceDiv, Nat.reduceMod, get_nth, nth_zero, nth_succ]; rfl))); (first | rfl | (simp only [index_SlH EA 0 _ _ _ (hsB _), load_SlH EA 0 _ _ (hsB _), ints_len, h1, h1', nth_ints _ i h1, hnn, Bool.and_false, Bool.false_and, Bool.not_true, Bool.not_false, decide_true, decide_false, Bool.or_true, Bool.true_or, not_true_eq_false, not_false_eq_true, Bool.and_true, Bool.true_and]; done)); rfl))); done)); (focus kernel_rfl); (focus (first | (apply okPairs_kinds; (focus ((repeat (first | exact Kinds.nil | (apply Kinds.ro; (first | exact RoT.zero | exact RoT.rd | exact RoT.all | exact RoT.rdTr _ | assumption)) | apply Kinds.any)); done)); decide +kernel) | kernel_rfl)))
       | (refine V.cond rfl (fun h => ?_) (fun h => ?_) <;> (try simp only [decide_eq_true_eq, decide_eq_false_iff_not, Bool.and_eq_true, Bool.or_eq_true, Bool.and_eq_false_iff, Bool.or_eq_false_iff, Bool.not_eq_true', Bool.not_eq_false', Bool.not_true, Bool.not_false, Classical.not_not, Int.not_lt, Int.not_le, reduceCtorEq, not_true_eq_false, not_false_eq_true, decide_true, decide_false, Int.reduceEq, Int.reduceLT, Int.reduceLE] at h) <;> (try (exfalso; omega)))
       | (refine FnQ.normal (res0 Try.results4) rfl ?_; (try dsimp only))
       | (refine FnQ.ret (res0 Try.results4) rfl ?_; (try dsimp only))
       | (refine FnQ.ret (res1 Try.results4) (by simp only [Nat.reduceDiv, Nat.reduceMod, get_nth, nth_zero, nth_succ]; rfl) ?_; (try dsimp only))
       | (refine FnQ.ret (res2 Try.results4) (by simp only [Nat.reduceDiv, Nat.reduceMod, get_nth, nth_zero, nth_succ]; rfl) ?_; (try dsimp only))
       | (refine FnQ.retB (resc Try.results4) (by simp only [cellR_op, index_SlH EA 0 _ _ _ (hsB _), load_SlH EA 0 _ _ (hsB _), ints_len, h1, h1', nth_ints _ i h1, hnn, go_sem, Nat.reduceDiv, Nat.reduceMod, Nat.reduceAdd, Nat.reduceSub, Nat.reduceEqDiff, Nat.reduceLeDiff, Nat.reduceLT, Nat.reduceMul, reduceIte, Nat.reducePow, Int.reduceEq, List.toList_toArray]; rfl) ?_; (try dsimp only))
       | (refine FnQ.retB (resct Try.results4) (by simp only [cellR_op, index_SlH EA 0 _ _ _ (hsB _), load_SlH EA 0 _ _ (hsB _), ints_len, h1, h1', nth_ints _ i h1, hnn, go_sem, Nat.reduceDiv, Nat.reduceMod, Nat.reduceAdd, Nat.reduceSub, Nat.reduceEqDiff, Nat.reduceLeDiff, Nat.reduceLT, Nat.reduceMul, reduceIte, Nat.reducePow, Int.reduceEq, List.toList_toArray]; rfl) ?_; (try dsimp only)))
      apply V.lpS [9, 50, 51, 52, 53, 54, 55, 56, 57, 58, 59, 60, 61, 62, 63, 64, 65, 66, 67, 68] (fun m xs H => ∃ (k : Nat) (g : _) (Fp : Nat → Prop) (t : List Int), xs = .v (.int .i64 (D10 k)) :: g ∧ m = 7 - k ∧ k ≤ 7 ∧ One H Fp 0 2 t ∧ t.length ≤ 8 * i + 1 + k ∧ t.all validC = true ∧ (k = 7 → t ≠ []) ∧ csiArgs t = ((l.take i).map fun x => min (numOf x) 9999) ++ [min (nn / E10.getD k 0) 9999]) 7
      focus (intro xs; simp only [putMany, set2, Nat.reduceAdd, Nat.reduceDiv, Nat.reduceMod, nth_zero, nth_succ, List.set_cons_zero, List.set_cons_succ]; rfl)
      focus (first | rfl | simp only [readMany, nth_zero, nth_succ, Nat.reduceDiv, Nat.reduceMod])
      · refine ⟨0, _, _, _, rfl, rfl, by omega, hBx, by omega, hvx, fun h => by omega, ?_⟩
        rw [hax]
        have : nn / E10.getD 0 0 = 0 := Int.ediv_eq_zero_of_lt hn0 (by show nn < 10000000; omega)
        rw [this]; rfl
      · rintro m xs H ⟨k, g', Fp', t', rfl, rfl, hk, hB', htl', htv', htn', hta'⟩
        by_cases hk7 : k = 7
        · subst hk7
          have hD7 : D10 7 = 0 := rfl
          repeat' (first
           | apply V.sq
           | apply V.bl
           | apply V.sc
           | apply V.skip
           | apply V.label
           | apply V.ret
           | apply V.exit
           | apply SeqQ.normal
           | apply SeqQ.ret
           | apply SeqQ.exit
           | apply BlockQ.normal
           | apply BlockQ.ret
           | apply BlockQ.here
           | (apply BlockQ.there; decide)
           | apply LoopS.ret
           | apply LoopS.exit
           | apply LoopF.ret
           | apply LoopF.exit
           | (apply V.reg; (focus ((repeat (first
           | exact RO.nil
           | (apply RO.op; rfl; (simp only [hD7, hi1, go_sem, Nat.reduceDiv, Nat.reduceMod, Nat.reduceAdd, Nat.reduceSub, Nat.reduceEqDiff, Nat.reduceLeDiff, Nat.reduceLT, Nat.reduceMul, reduceIte, Nat.reducePow, Int.reduceEq, List.toList_toArray]; (first | rfl | (apply ite_ok; (first | assumption | rfl | omega | (refine ⟨?_, ?_⟩ <;> omega)); rfl))); rfl)
           | (apply RO.opg; (first | (apply wantT; rfl; rfl; (simp only [Nat.reduceDiv, Nat.reduceMod, get_nth, nth_zero, nth_succ]; rfl)) | (apply wantF; rfl; rfl; (simp only [Nat.reduceDiv, Nat.reduceMod, get_nth, nth_zero, nth_succ]; rfl)) | (apply wantTg; rfl; rfl; (simp only [Nat.reduceDiv, Nat.reduceMod, get_nth, nth_zero, nth_succ]; rfl)) | (apply wantFg; rfl; rfl; (simp only [Nat.reduceDiv, Nat.reduceMod, get_nth, nth_zero, nth_succ]; rfl)) | (apply wantU; rfl; rfl; (simp only [Nat.reduceDiv, Nat.reduceMod, get_nth, nth_zero, nth_succ]; rfl))); (intro h; (try simp only [Bool.and_eq_true, Bool.not_eq_true', Bool.not_eq_eq_eq_not, Bool.not_true] at h); simp only [h, hD7, hi1, go_sem, Nat.reduceDiv, Nat.reduceMod, Nat.reduceAdd, Nat.reduceSub, Nat.reduceEqDiff, Nat.reduceLeDiff, Nat.reduceLT, Nat.reduceMul, reduceIte, Nat.reducePow, Int.reduceEq, List.toList_toArray]; (first | rfl | (apply ite_ok; (first | assumption | rfl | omega | (refine ⟨?_, ?_⟩ <;> omega)); rfl))); rfl)
           | (apply RO.call; exact want0 rfl; (simp only [hD7, hi1, go_sem, Nat.reduceDiv, Nat.reduceMod, Nat.reduceAdd, Nat.reduceSub, Nat.reduceEqDiff, Nat.reduceLeDiff, Nat.reduceLT, Nat.reduceMul, reduceIte, Nat.reducePow, Int.reduceEq, List.toList_toArray]; rfl); fail; rfl)
           | (apply RO.callg; (first | (apply wantT; rfl; rfl; (simp only [Nat.reduceDiv, Nat.reduceMod, get_nth, nth_zero, nth_succ]; rfl)) | (apply wantF; rfl; rfl; (simp only [Nat.reduceDiv, Nat.reduceMod, get_nth, nth_zero, nth_succ]; rfl)) | (apply wantTg; rfl; rfl; (simp only [Nat.reduceDiv, Nat.reduceMod, get_nth, nth_zero, nth_succ]; rfl)) | (apply wantFg; rfl; rfl; (simp only [Nat.reduceDiv, Nat.reduceMod, get_nth, nth_zero, nth_succ]; rfl)) | (apply wantU; rfl; rfl; (simp only [Nat.reduceDiv, Nat.reduceMod, get_nth, nth_zero, nth_succ]; rfl))); (intro h; (try simp only [Bool.and_eq_true, Bool.not_eq_true', Bool.not_eq_eq_eq_not, Bool.not_true] at h); simp only [h, hD7, hi1, go_sem, Nat.reduceDiv, Nat.reduceMod, Nat.reduceAdd, Nat.reduceSub, Nat.reduceEqDiff, Nat.reduceLeDiff, Nat.reduceLT, Nat.reduceMul, reduceIte, Nat.reducePow, Int.reduceEq, List.toList_toArray]; rfl); (intro h; (try simp only [Bool.and_eq_true, Bool.not_eq_true', Bool.not_eq_eq_eq_not, Bool.not_true] at h); fail); rfl)
           | (apply RO.no; apply wantNo; (first | (apply wantT; rfl; rfl; (simp only [Nat.reduceDiv, Nat.reduceMod, get_nth, nth_zero, nth_succ]; rfl)) | (apply wantF; rfl; rfl; (simp only [Nat.reduceDiv, Nat.reduceMod, get_nth, nth_zero, nth_succ]; rfl)) | (apply wantTg; rfl; rfl; (simp only [Nat.reduceDiv, Nat.reduceMod, get_nth, nth_zero, nth_succ]; rfl)) | (apply wantFg; rfl; rfl; (simp only [Nat.reduceDiv, Nat.reduceMod, get_nth, nth_zero, nth_succ]; rfl)) | (apply wantU; rfl; rfl; (simp only [Nat.reduceDiv, Nat.reduceMod, get_nth, nth_zero, nth_succ]; rfl))); (first | rfl | (simp only [hD7, hi1, Bool.and_false, Bool.false_and, Bool.not_true, Bool.not_false, decide_true, decide_false, Bool.or_true, Bool.true_or, not_true_eq_false, not_false_eq_true, Bool.and_true, Bool.true_and]; done)); rfl))); done)))
           | (apply V.regd; (focus ((repeat (first
           | exact RO.nil
           | (apply RO.op; rfl; (simp only [hD7, hi1, go_sem, Nat.reduceDiv, Nat.reduceMod, Nat.reduceAdd, Nat.reduceSub, Nat.reduceEqDiff, Nat.reduceLeDiff, Nat.reduceLT, Nat.reduceMul, reduceIte, Nat.reducePow, Int.reduceEq, List.toList_toArray]; (first | rfl | (apply ite_ok; (first | assumption | rfl | omega | (refine ⟨?_, ?_⟩ <;> omega)); rfl))); rfl)
           | (apply RO.opg; (first | (apply wantT; rfl; rfl; (simp only [Nat.reduceDiv, Nat.reduceMod, get_nth, nth_zero, nth_succ]; rfl)) | (apply wantF; rfl; rfl; (simp only [Nat.reduceDiv, Nat.reduceMod, get_nth, nth_zero, nth_succ]; rfl)) | (apply wantTg; rfl; rfl; (simp only [Nat.reduceDiv, Nat.reduceMod, get_nth, nth_zero, nth_succ]; rfl)) | (apply wantFg; rfl; rfl; (simp only [Nat.reduceDiv, Nat.reduceMod, get_nth, nth_zero, nth_succ]; rfl)) | (apply wantU; rfl; rfl; (simp only [Nat.reduceDiv, Nat.reduceMod, get_nth, nth_zero, nth_succ]; rfl))); (intro h; (try simp only [Bool.and_eq_true, Bool.not_eq_true', Bool.not_eq_eq_eq_not, Bool.not_true] at h); simp only [h, hD7, hi1, go_sem, Nat.reduceDiv, Nat.reduceMod, Nat.reduceAdd, Nat.reduceSub, Nat.reduceEqDiff, Nat.reduceLeDiff, Nat.reduceLT, Nat.reduceMul, reduceIte, Nat.reducePow, Int.reduceEq, List.toList_toArray]; (first | rfl | (apply ite_ok; (first | assumption | rfl | omega | (refine ⟨?_, ?_⟩ <;> omega)); rfl))); rfl)
           | (apply RO.call; exact want0 rfl; (simp only [hD7, hi1, go_sem, Nat.reduceDiv, Nat.reduceMod, Nat.reduceAdd, Nat.reduceSub, Nat.reduceEqDiff, Nat.reduceLeDiff, Nat.reduceLT, Nat.reduceMul, reduceIte, Nat.reducePow, Int.reduceEq, List.toList_toArray]; rfl); fail; rfl)
           | (apply RO.callg; (first | (apply wantT; rfl; rfl; (simp only [Nat.reduceDiv, Nat.reduceMod, get_nth, nth_zero, nth_succ]; rfl)) | (apply wantF; rfl; rfl; (simp only [Nat.reduceDiv, Nat.reduceMod, get_nth, nth_zero, nth_succ]; rfl)) | (apply wantTg; rfl; rfl; (simp only [Nat.reduceDiv, Nat.reduceMod, get_nth, nth_zero, nth_succ]; rfl)) | (apply wantFg; rfl; rfl; (simp only [Nat.reduceDiv, Nat.reduceMod, get_nth, nth_zero, nth_succ]; rfl)) | (apply wantU; rfl; rfl; (simp only [Nat.reduceDiv, Nat.reduceMod, get_nth, nth_zero, nth_succ]; rfl))); (intro h; (try simp only [Bool.and_eq_true, Bool.not_eq_true', Bool.not_eq_eq_eq_not, Bool.not_true] at h); simp only [h, hD7, hi1, go_sem, Nat.reduceDiv, Nat.reduceMod, Nat.reduceAdd, Nat.reduceSub, Nat.reduceEqDiff, Nat.reduceLeDiff, Nat.reduceLT, Nat.reduceMul, reduceIte, Nat.reducePow, Int.reduceEq, List.toList_toArray]; rfl); (intro h; (try simp only [Bool.and_eq_true, Bool.not_eq_true', Bool.not_eq_eq_eq_not, Bool.not_true] at h); fail); rfl)
           | (apply RO.no; apply wantNo; (first | (apply wantT; rfl; rfl; (simp only [Nat.reduceDiv, Nat.reduceMod, get_nth, nth_zero, nth_succ]; rfl)) | (apply wantF; rfl; rfl; (simp only [Nat.reduceDiv, Nat.reduceMod, get_nth, nth_zero, nth_succ]; rfl)) | (apply wantTg; rfl; rfl; (simp only [Nat.reduceDiv, Nat.reduceMod, get_nth, nth_zero, nth_succ]; rfl)) | (apply wantFg; rfl; rfl; (simp only [Nat.reduceDiv, Nat.reduceMod, get_nth, nth_zero, nth_succ]; rfl)) | (apply wantU; rfl; rfl; (simp only [Nat.reduceDiv, Nat.reduceMod, get_nth, nth_zero, nth_succ]; rfl))); (first | rfl | (simp only [hD7, hi1, Bool.and_false, Bool.false_and, Bool.not_true, Bool.not_false, decide_true, decide_false, Bool.or_true, Bool.true_or, not_true_eq_false, not_false_eq_true, Bool.and_true, Bool.true_and]; done)); rfl))); done)); (focus kernel_rfl); (focus (first | (apply okPairs_kinds; (focus ((repeat (first | exact Kinds.nil | (apply Kinds.ro; (first | exact RoT.zero | exact RoT.rd | exact RoT.all | exact RoT.rdTr _ | assumption)) | apply Kinds.any)); done)); decide +kernel) | kernel_rfl)))
           | (refine V.cond rfl (fun h => ?_) (fun h => ?_) <;> (try simp only [decide_eq_true_eq, decide_eq_false_iff_not, Bool.and_eq_true, Bool.or_eq_true, Bool.and_eq_false_iff, Bool.or_eq_false_iff, Bool.not_eq_true', Bool.not_eq_false', Bool.not_true, Bool.not_false, Classical.not_not, Int.not_lt, Int.not_le, reduceCtorEq, not_true_eq_false, not_false_eq_true, decide_true, decide_false, Int.reduceEq, Int.reduceLT, Int.reduceLE] at h) <;> (try (exfalso; omega)))
           | (refine FnQ.normal (res0 Try.results4) rfl ?_; (try dsimp only))
           | (refine FnQ.ret (res0 Try.results4) rfl ?_; (try dsimp only))
           | (refine FnQ.ret (res1 Try.results4) (by simp only [Nat.reduceDiv, Nat.reduceMod, get_nth, nth_zero, nth_succ]; rfl) ?_; (try dsimp only))
           | (refine FnQ.ret (res2 Try.results4) (by simp only [Nat.reduceDiv, Nat.reduceMod, get_nth, nth_zero, nth_succ]; rfl) ?_; (try dsimp only))
           | (refine FnQ.retB (resc Try.results4) (by simp only [cellR_op, hD7, hi1, go_sem, Nat.reduceDiv, Nat.reduceMod, Nat.reduceAdd, Nat.reduceSub, Nat.reduceEqDiff, Nat.reduceLeDiff, Nat.reduceLT, Nat.reduceMul, reduceIte, Nat.reducePow, Int.reduceEq, List.toList_toArray]; rfl) ?_; (try dsimp only))
           | (refine FnQ.retB (resct Try.results4) (by simp only [cellR_op, hD7, hi1, go_sem, Nat.reduceDiv, Nat.reduceMod, Nat.reduceAdd, Nat.reduceSub, Nat.reduceEqDiff, Nat.reduceLeDiff, Nat.reduceLT, Nat.reduceMul, reduceIte, Nat.reducePow, Int.reduceEq, List.toList_toArray]; rfl) ?_; (try dsimp only)))
          refine LoopS.again (l.length - (i + 1)) (by rfl) (by omega) ⟨i + 1, _, Fp', t', rfl, rfl, by omega, hB', by omega, htv', ?_⟩
          rw [if_neg (by omega)]
          refine ⟨htn' rfl, ?_⟩
          rw [hta', et, List.map_append, List.map_cons, List.map_nil, hnum]
          have : nn / E10.getD 7 0 = nn := Int.ediv_one nn
          rw [this]
        · obtain ⟨d1, d2, d3, d4, d5⟩ := D10_facts k (by omega)
          have hdn : ¬ D10 k = 0 := by omega
          have hw1 : IntKind.i64.wrap ((D10 k).tdiv 10) = D10 (k + 1) := by rw [d5]; exact IntWalk.i64_in _ (by
            by_cases h : k + 1 < 7
            · have := (D10_facts (k + 1) h); omega
            · have : D10 (k + 1) = 0 := if_neg h
              omega)
          have q0 : 0 ≤ nn / D10 k := Int.ediv_nonneg hn0 (by omega)
          have q1 : nn / D10 k ≤ nn := Int.ediv_le_self _ hn0
          have e1 : nn.tdiv (D10 k) = nn / D10 k := Int.tdiv_eq_ediv_of_nonneg hn0
          have e2 := IntWalk.i64_in (nn / D10 k) (by omega)
          have e3 : (nn / D10 k).tmod 10 = nn / D10 k % 10 := Int.tmod_eq_emod_of_nonneg q0
          have e4 := IntWalk.i64_in (48 + nn / D10 k % 10) (by omega)
          have e5 := IntWalk.i32_in (48 + nn / D10 k % 10) (by omega)
          obtain ⟨R, H3, F3, hc3, hB3, hE3, -⟩ := hB'.step (ys := []) (48 + nn / D10 k % 10) (by omega) (by omega)
          rw [put_digit t' _ (.inr (by omega))] at hB3 hE3
          have hE3' : R = .v (.slice none 0 0) := hE3
          subst hE3'
          have hdig : csiArgs (t' ++ [48 + nn / D10 k % 10]) = ((l.take i).map fun x => min (numOf x) 9999) ++ [min (nn / E10.getD (k + 1) 0) 9999] := by
            rw [csiArgs_snoc, hta', stepArgs_digit _ _ _ (by omega), d3, d4, ← digit_min nn (D10 k) d1 hn0]
            congr 3
            omega
          have hvd : (t' ++ [48 + nn / D10 k % 10]).all validC = true := by
            rw [List.all_append, htv']
            have : validC (48 + nn / D10 k % 10) = true := decide_eq_true (by omega)
            simp [this]
          have hle := d1
          repeat' (first
           | apply V.sq
           | apply V.bl
           | apply V.sc
           | apply V.skip
           | apply V.label
           | apply V.ret
           | apply V.exit
           | apply SeqQ.normal
           | apply SeqQ.ret
           | apply SeqQ.exit
           | apply BlockQ.normal
           | apply BlockQ.ret
           | apply BlockQ.here
           | (apply BlockQ.there; decide)
           | apply LoopS.ret
           | apply LoopS.exit
           | apply LoopF.ret
           | apply LoopF.exit
           | (apply V.reg; (focus ((repeat (first
           | exact RO.nil
           | (apply RO.op; rfl; (simp only [hdn, e1, e2, e3, e4, e5, hw1, go_sem, Nat.reduceDiv, Nat.reduceMod, Nat.reduceAdd, Nat.reduceSub, Nat.reduceEqDiff, Nat.reduceLeDiff, Nat.reduceLT, Nat.reduceMul, reduceIte, Nat.reducePow, Int.reduceEq, List.toList_toArray]; (first | rfl | (apply ite_ok; (first | assumption | rfl | omega | (refine ⟨?_, ?_⟩ <;> omega)); rfl))); rfl)
           | (apply RO.opg; (first | (apply wantT; rfl; rfl; (simp only [Nat.reduceDiv, Nat.reduceMod, get_nth, nth_zero, nth_succ]; rfl)) | (apply wantF; rfl; rfl; (simp only [Nat.reduceDiv, Nat.reduceMod, get_nth, nth_zero, nth_succ]; rfl)) | (apply wantTg; rfl; rfl; (simp only [Nat.reduceDiv, Nat.reduceMod, get_nth, nth_zero, nth_succ]; rfl)) | (apply wantFg; rfl; rfl; (simp only [Nat.reduceDiv, Nat.reduceMod, get_nth, nth_zero, nth_succ]; rfl)) | (apply wantU; rfl; rfl; (simp only [Nat.reduceDiv, Nat.reduceMod, get_nth, nth_zero, nth_succ]; rfl))); (intro h; (try simp only [Bool.and_eq_true, Bool.not_eq_true', Bool.not_eq_eq_eq_not, Bool.not_true] at h); simp only [h, hdn, e1, e2, e3, e4, e5, hw1, go_sem, Nat.reduceDiv, Nat.reduceMod, Nat.reduceAdd, Nat.reduceSub, Nat.reduceEqDiff, Nat.reduceLeDiff, Nat.reduceLT, Nat.reduceMul, reduceIte, Nat.reducePow, Int.reduceEq, List.toList_toArray]; (first | rfl | (apply ite_ok; (first | assumption | rfl | omega | (refine ⟨?_, ?_⟩ <;> omega)); rfl))); rfl)
           | (apply RO.call; exact want0 rfl; (simp only [hdn, e1, e2, e3, e4, e5, hw1, go_sem, Nat.reduceDiv, Nat.reduceMod, Nat.reduceAdd, Nat.reduceSub, Nat.reduceEqDiff, Nat.reduceLeDiff, Nat.reduceLT, Nat.reduceMul, reduceIte, Nat.reducePow, Int.reduceEq, List.toList_toArray]; rfl); (first | (apply hc3 <;> (first | assumption | rfl | omega | (refine ⟨?_, ?_⟩ <;> omega)))); rfl)
           | (apply RO.callg; (first | (apply wantT; rfl; rfl; (simp only [Nat.reduceDiv, Nat.reduceMod, get_nth, nth_zero, nth_succ]; rfl)) | (apply wantF; rfl; rfl; (simp only [Nat.reduceDiv, Nat.reduceMod, get_nth, nth_zero, nth_succ]; rfl)) | (apply wantTg; rfl; rfl; (simp only [Nat.reduceDiv, Nat.reduceMod, get_nth, nth_zero, nth_succ]; rfl)) | (apply wantFg; rfl; rfl; (simp only [Nat.reduceDiv, Nat.reduceMod, get_nth, nth_zero, nth_succ]; rfl)) | (apply wantU; rfl; rfl; (simp only [Nat.reduceDiv, Nat.reduceMod, get_nth, nth_zero, nth_succ]; rfl))); (intro h; (try simp only [Bool.and_eq_true, Bool.not_eq_true', Bool.not_eq_eq_eq_not, Bool.not_true] at h); simp only [h, hdn, e1, e2, e3, e4, e5, hw1, go_sem, Nat.reduceDiv, Nat.reduceMod, Nat.reduceAdd, Nat.reduceSub, Nat.reduceEqDiff, Nat.reduceLeDiff, Nat.reduceLT, Nat.reduceMul, reduceIte, Nat.reducePow, Int.reduceEq, List.toList_toArray]; rfl); (intro h; (try simp only [Bool.and_eq_true, Bool.not_eq_true', Bool.not_eq_eq_eq_not, Bool.not_true] at h); (first | (apply hc3 <;> (first | assumption | rfl | omega | (refine ⟨?_, ?_⟩ <;> omega))))); rfl)
           | (apply RO.no; apply wantNo; (first | (apply wantT; rfl; rfl; (simp only [Nat.reduceDiv, Nat.reduceMod, get_nth, nth_zero, nth_succ]; rfl)) | (apply wantF; rfl; rfl; (simp only [Nat.reduceDiv, Nat.reduceMod, get_nth, nth_zero, nth_succ]; rfl)) | (apply wantTg; rfl; rfl; (simp only [Nat.reduceDiv, Nat.reduceMod, get_nth, nth_zero, nth_succ]; rfl)) | (apply wantFg; rfl; rfl; (simp only [Nat.reduceDiv, Nat.reduceMod, get_nth, nth_zero, nth_succ]; rfl)) | (apply wantU; rfl; rfl; (simp only [Nat.reduceDiv, Nat.reduceMod, get_nth, nth_zero, nth_succ]; rfl))); (first | rfl | (simp only [hdn, e1, e2, e3, e4, e5, hw1, Bool.and_false, Bool.false_and, Bool.not_true, Bool.not_false, decide_true, decide_false, Bool.or_true, Bool.true_or, not_true_eq_false, not_false_eq_true, Bool.and_true, Bool.true_and]; done)); rfl))); done)))
           | (apply V.regd; (focus ((repeat (first
           | exact RO.nil
           | (apply RO.op; rfl; (simp only [hdn, e1, e2, e3, e4, e5, hw1, go_sem, Nat.reduceDiv, Nat.reduceMod, Nat.reduceAdd, Nat.reduceSub, Nat.reduceEqDiff, Nat.reduceLeDiff, Nat.reduceLT, Nat.reduceMul, reduceIte, Nat.reducePow, Int.reduceEq, List.toList_toArray]; (first | rfl | (apply ite_ok; (first | assumption | rfl | omega | (refine ⟨?_, ?_⟩ <;> omega)); rfl))); rfl)
           | (apply RO.opg; (first | (apply wantT; rfl; rfl; (simp only [Nat.reduceDiv, Nat.reduceMod, get_nth, nth_zero, nth_succ]; rfl)) | (apply wantF; rfl; rfl; (simp only [Nat.reduceDiv, Nat.reduceMod, get_nth, nth_zero, nth_succ]; rfl)) | (apply wantTg; rfl; rfl; (simp only [Nat.reduceDiv, Nat.reduceMod, get_nth, nth_zero, nth_succ]; rfl)) | (apply wantFg; rfl; rfl; (simp only [Nat.reduceDiv, Nat.reduceMod, get_nth, nth_zero, nth_succ]; rfl)) | (apply wantU; rfl; rfl; (simp only [Nat.reduceDiv, Nat.reduceMod, get_nth, nth_zero, nth_succ]; rfl))); (intro h; (try simp only [Bool.and_eq_true, Bool.not_eq_true', Bool.not_eq_eq_eq_not, Bool.not_true] at h); simp only [h, hdn, e1, e2, e3, e4, e5, hw1, go_sem, Nat.reduceDiv, Nat.reduceMod, Nat.reduceAdd, Nat.reduceSub, Nat.reduceEqDiff, Nat.reduceLeDiff, Nat.reduceLT, Nat.reduceMul, reduceIte, Nat.reducePow, Int.reduceEq, List.toList_toArray]; (first | rfl | (apply ite_ok; (first | assumption | rfl | omega | (refine ⟨?_, ?_⟩ <;> omega)); rfl))); rfl)
           | (apply RO.call; exact want0 rfl; (simp only [hdn, e1, e2, e3, e4, e5, hw1, go_sem, Nat.reduceDiv, Nat.reduceMod, Nat.reduceAdd, Nat.reduceSub, Nat.reduceEqDiff, Nat.reduceLeDiff, Nat.reduceLT, Nat.reduceMul, reduceIte, Nat.reducePow, Int.reduceEq, List.toList_toArray]; rfl); (first | (apply hc3 <;> (first | assumption | rfl | omega | (refine ⟨?_, ?_⟩ <;> omega)))); rfl)
           | (apply RO.callg; (first | (apply wantT; rfl; rfl; (simp only [Nat.reduceDiv, Nat.reduceMod, get_nth, nth_zero, nth_succ]; rfl)) | (apply wantF; rfl; rfl; (simp only [Nat.reduceDiv, Nat.reduceMod, get_nth, nth_zero, nth_succ]; rfl)) | (apply wantTg; rfl; rfl; (simp only [Nat.reduceDiv, Nat.reduceMod, get_nth, nth_zero, nth_succ]; rfl)) | (apply wantFg; rfl; rfl; (simp only [Nat.reduceDiv, Nat.reduceMod, get_nth, nth_zero, nth_succ]; rfl)) | (apply wantU; rfl; rfl; (simp only [Nat.reduceDiv, Nat.reduceMod, get_nth, nth_zero, nth_succ]; rfl))); (intro h; (try simp only [Bool.and_eq_true, Bool.not_eq_true', Bool.not_eq_eq_eq_not, Bool.not_true] at h); simp only [h, hdn, e1, e2, e3, e4, e5, hw1, go_sem, Nat.reduceDiv, Nat.reduceMod, Nat.reduceAdd, Nat.reduceSub, Nat.reduceEqDiff, Nat.reduceLeDiff, Nat.reduceLT, Nat.reduceMul, reduceIte, Nat.reducePow, Int.reduceEq, List.toList_toArray]; rfl); (intro h; (try simp only [Bool.and_eq_true, Bool.not_eq_true', Bool.not_eq_eq_eq_not, Bool.not_true] at h); (first | (apply hc3 <;> (first | assumption | rfl | omega | (refine ⟨?_, ?_⟩ <;> omega))))); rfl)
           | (apply RO.no; apply wantNo; (first | (apply wantT; rfl; rfl; (simp only [Nat.reduceDiv, Nat.reduceMod, get_nth, nth_zero, nth_succ]; rfl)) | (apply wantF; rfl; rfl; (simp only [Nat.reduceDiv, Nat.reduceMod, get_nth, nth_zero, nth_succ]; rfl)) | (apply wantTg; rfl; rfl; (simp only [Nat.reduceDiv, Nat.reduceMod, get_nth, nth_zero, nth_succ]; rfl)) | (apply wantFg; rfl; rfl; (simp only [Nat.reduceDiv, Nat.reduceMod, get_nth, nth_zero, nth_succ]; rfl)) | (apply wantU; rfl; rfl; (simp only [Nat.reduceDiv, Nat.reduceMod, get_nth, nth_zero, nth_succ]; rfl))); (first | rfl | (simp only [hdn, e1, e2, e3, e4, e5, hw1, Bool.and_false, Bool.false_and, Bool.not_true, Bool.not_false, decide_true, decide_false, Bool.or_true, Bool.true_or, not_true_eq_false, not_false_eq_true, Bool.and_true, Bool.true_and]; done)); rfl))); done)); (focus kernel_rfl); (focus (first | (apply okPairs_kinds; (focus ((repeat (first | exact Kinds.nil | (apply Kinds.ro; (first | exact RoT.zero | exact RoT.rd | exact RoT.all | exact RoT.rdTr _ | assumption)) | apply Kinds.any)); done)); decide +kernel) | kernel_rfl)))
           | (refine V.cond rfl (fun h => ?_) (fun h => ?_) <;> (try simp only [decide_eq_true_eq, decide_eq_false_iff_not, Bool.and_eq_true, Bool.or_eq_true, Bool.and_eq_false_iff, Bool.or_eq_false_iff, Bool.not_eq_true', Bool.not_eq_false', Bool.not_true, Bool.not_false, Classical.not_not, Int.not_lt, Int.not_le, reduceCtorEq, not_true_eq_false, not_false_eq_true, decide_true, decide_false, Int.reduceEq, Int.reduceLT, Int.reduceLE] at h) <;> (try (exfalso; omega)))
           | (refine FnQ.normal (res0 Try.results4) rfl ?_; (try dsimp only))
           | (refine FnQ.ret (res0 Try.results4) rfl ?_; (try dsimp only))
           | (refine FnQ.ret (res1 Try.results4) (by simp only [Nat.reduceDiv, Nat.reduceMod, get_nth, nth_zero, nth_succ]; rfl) ?_; (try dsimp only))
           | (refine FnQ.ret (res2 Try.results4) (by simp only [Nat.reduceDiv, Nat.reduceMod, get_nth, nth_zero, nth_succ]; rfl) ?_; (try dsimp only))
           | (refine FnQ.retB (resc Try.results4) (by simp only [cellR_op, hdn, e1, e2, e3, e4, e5, hw1, go_sem, Nat.reduceDiv, Nat.reduceMod, Nat.reduceAdd, Nat.reduceSub, Nat.reduceEqDiff, Nat.reduceLeDiff, Nat.reduceLT, Nat.reduceMul, reduceIte, Nat.reducePow, Int.reduceEq, List.toList_toArray]; rfl) ?_; (try dsimp only))
           | (refine FnQ.retB (resct Try.results4) (by simp only [cellR_op, hdn, e1, e2, e3, e4, e5, hw1, go_sem, Nat.reduceDiv, Nat.reduceMod, Nat.reduceAdd, Nat.reduceSub, Nat.reduceEqDiff, Nat.reduceLeDiff, Nat.reduceLT, Nat.reduceMul, reduceIte, Nat.reducePow, Int.reduceEq, List.toList_toArray]; rfl) ?_; (try dsimp only)))
          · exact LoopS.again (7 - (k + 1)) (by rfl) (by omega) ⟨k + 1, _, F3, _, rfl, rfl, by omega, hB3, by rw [List.length_append, List.length_singleton]; omega, hvd, fun _ => by simp, hdig⟩
          · have hz : nn / D10 k = 0 := Int.ediv_eq_zero_of_lt hn0 (by omega)
            refine LoopS.again (7 - (k + 1)) (by rfl) (by omega) ⟨k + 1, _, Fp', t', rfl, rfl, by omega, hB', by omega, htv', fun h => ?_, ?_⟩
            · have : k = 6 := by omega
              subst this
              have hD6 : D10 6 = 1 := rfl
              omega
            · rw [hta', d4, hz, d3, edd nn _ d1, hz]
              rfl
    · have hil : i = l.length := by omega
      subst hil
      rw [if_neg (by omega), List.take_length] at hta
      obtain ⟨R, H3, F3, hc3, hB3, hE3, -⟩ := hB.step (ys := []) last (by omega) (by omega)
      have ep : put 2 t last = (0, t, some ⟨3, last, (csiArgs t).take 8, emptyB⟩) := by
        rw [put_two, if_neg (by omega), if_neg (by omega), if_pos hlr, csiEv, htv, if_pos rfl, if_neg hta.1]
      rw [ep, hta.2] at hE3
      obtain ⟨k1, A2, rfl, hk1, hk1l, hkb, hA2, _⟩ := hE3
      generalize hL : (l.map fun x => min (numOf x) 9999).take 8 = L at hA2 hkb
      have hLl : L.length = min l.length 8 := by rw [← hL, List.length_take, List.length_map, Nat.min_comm]
      have hm8 : min (l.length : Int) 8 = (L.length : Int) := by omega
      repeat' (first
       | apply V.sq
       | apply V.bl
       | apply V.sc
       | apply V.skip
       | apply V.label
       | apply V.ret
       | apply V.exit
       | apply SeqQ.normal
       | apply SeqQ.ret
       | apply SeqQ.exit
       | apply BlockQ.normal
       | apply BlockQ.ret
       | apply BlockQ.here
       | (apply BlockQ.there; decide)
       | apply LoopS.ret
       | apply LoopS.exit
       | apply LoopF.ret
       | apply LoopF.exit
       | (apply V.reg; (focus ((repeat (first
       | exact RO.nil
       | (apply RO.op; rfl; (simp only [hkb, hm8, len_SlH EA 0 _ _ (hsB _), len_SlH EA 0 _ _ hA2, ints_len, decide_true, Bool.not_true, not_true_eq_false, go_sem, Nat.reduceDiv, Nat.reduceMod, Nat.reduceAdd, Nat.reduceSub, Nat.reduceEqDiff, Nat.reduceLeDiff, Nat.reduceLT, Nat.reduceMul, reduceIte, Nat.reducePow, Int.reduceEq, List.toList_toArray]; (first | rfl | (apply ite_ok; (first | assumption | rfl | omega | (refine ⟨?_, ?_⟩ <;> omega)); rfl))); rfl)
       | (apply RO.opg; (first | (apply wantT; rfl; rfl; (simp only [Nat.reduceDiv, Nat.reduceMod, get_nth, nth_zero, nth_succ]; rfl)) | (apply wantF; rfl; rfl; (simp only [Nat.reduceDiv, Nat.reduceMod, get_nth, nth_zero, nth_succ]; rfl)) | (apply wantTg; rfl; rfl; (simp only [Nat.reduceDiv, Nat.reduceMod, get_nth, nth_zero, nth_succ]; rfl)) | (apply wantFg; rfl; rfl; (simp only [Nat.reduceDiv, Nat.reduceMod, get_nth, nth_zero, nth_succ]; rfl)) | (apply wantU; rfl; rfl; (simp only [Nat.reduceDiv, Nat.reduceMod, get_nth, nth_zero, nth_succ]; rfl))); (intro h; (try simp only [Bool.and_eq_true, Bool.not_eq_true', Bool.not_eq_eq_eq_not, Bool.not_true] at h); simp only [h, hkb, hm8, len_SlH EA 0 _ _ (hsB _), len_SlH EA 0 _ _ hA2, ints_len, decide_true, Bool.not_true, not_true_eq_false, go_sem, Nat.reduceDiv, Nat.reduceMod, Nat.reduceAdd, Nat.reduceSub, Nat.reduceEqDiff, Nat.reduceLeDiff, Nat.reduceLT, Nat.reduceMul, reduceIte, Nat.reducePow, Int.reduceEq, List.toList_toArray]; (first | rfl | (apply ite_ok; (first | assumption | rfl | omega | (refine ⟨?_, ?_⟩ <;> omega)); rfl))); rfl)
       | (apply RO.call; exact want0 rfl; (simp only [hkb, hm8, len_SlH EA 0 _ _ (hsB _), len_SlH EA 0 _ _ hA2, ints_len, decide_true, Bool.not_true, not_true_eq_false, go_sem, Nat.reduceDiv, Nat.reduceMod, Nat.reduceAdd, Nat.reduceSub, Nat.reduceEqDiff, Nat.reduceLeDiff, Nat.reduceLT, Nat.reduceMul, reduceIte, Nat.reducePow, Int.reduceEq, List.toList_toArray]; rfl); (first | (apply hc3 <;> (first | assumption | rfl | omega | (refine ⟨?_, ?_⟩ <;> omega)))); rfl)
       | (apply RO.callg; (first | (apply wantT; rfl; rfl; (simp only [Nat.reduceDiv, Nat.reduceMod, get_nth, nth_zero, nth_succ]; rfl)) | (apply wantF; rfl; rfl; (simp only [Nat.reduceDiv, Nat.reduceMod, get_nth, nth_zero, nth_succ]; rfl)) | (apply wantTg; rfl; rfl; (simp only [Nat.reduceDiv, Nat.reduceMod, get_nth, nth_zero, nth_succ]; rfl)) | (apply wantFg; rfl; rfl; (simp only [Nat.reduceDiv, Nat.reduceMod, get_nth, nth_zero, nth_succ]; rfl)) | (apply wantU; rfl; rfl; (simp only [Nat.reduceDiv, Nat.reduceMod, get_nth, nth_zero, nth_succ]; rfl))); (intro h; (try simp only [Bool.and_eq_true, Bool.not_eq_true', Bool.not_eq_eq_eq_not, Bool.not_true] at h); simp only [h, hkb, hm8, len_SlH EA 0 _ _ (hsB _), len_SlH EA 0 _ _ hA2, ints_len, decide_true, Bool.not_true, not_true_eq_false, go_sem, Nat.reduceDiv, Nat.reduceMod, Nat.reduceAdd, Nat.reduceSub, Nat.reduceEqDiff, Nat.reduceLeDiff, Nat.reduceLT, Nat.reduceMul, reduceIte, Nat.reducePow, Int.reduceEq, List.toList_toArray]; rfl); (intro h; (try simp only [Bool.and_eq_true, Bool.not_eq_true', Bool.not_eq_eq_eq_not, Bool.not_true] at h); (first | (apply hc3 <;> (first | assumption | rfl | omega | (refine ⟨?_, ?_⟩ <;> omega))))); rfl)
       | (apply RO.no; apply wantNo; (first | (apply wantT; rfl; rfl; (simp only [Nat.reduceDiv, Nat.reduceMod, get_nth, nth_zero, nth_succ]; rfl)) | (apply wantF; rfl; rfl; (simp only [Nat.reduceDiv, Nat.reduceMod, get_nth, nth_zero, nth_succ]; rfl)) | (apply wantTg; rfl; rfl; (simp only [Nat.reduceDiv, Nat.reduceMod, get_nth, nth_zero, nth_succ]; rfl)) | (apply wantFg; rfl; rfl; (simp only [Nat.reduceDiv, Nat.reduceMod, get_nth, nth_zero, nth_succ]; rfl)) | (apply wantU; rfl; rfl; (simp only [Nat.reduceDiv, Nat.reduceMod, get_nth, nth_zero, nth_succ]; rfl))); (first | rfl | (simp only [hkb, hm8, len_SlH EA 0 _ _ (hsB _), len_SlH EA 0 _ _ hA2, ints_len, decide_true, Bool.not_true, not_true_eq_false, Bool.and_false, Bool.false_and, Bool.not_true, Bool.not_false, decide_true, decide_false, Bool.or_true, Bool.true_or, not_true_eq_false, not_false_eq_true, Bool.and_true, Bool.true_and]; done)); rfl))); done)))
       | (apply V.regd; (focus ((repeat (first
       | exact RO.nil
       | (apply RO.op; rfl; (simp only [hkb, hm8, len_SlH EA 0 _ _ (hsB _), len_SlH EA 0 _ _ hA2, ints_len, decide_true, Bool.not_true, not_true_eq_false, go_sem, Nat.reduceDiv, Nat.reduceMod, Nat.reduceAdd, Nat.reduceSub, Nat.reduceEqDiff, Nat.reduceLeDiff, Nat.reduceLT, Nat.reduceMul, reduceIte, Nat.reducePow, Int.reduceEq, List.toList_toArray]; (first | rfl | (apply ite_ok; (first | assumption | rfl | omega | (refine ⟨?_, ?_⟩ <;> omega)); rfl))); rfl)
       | (apply RO.opg; (first | (apply wantT; rfl; rfl; (simp only [Nat.reduceDiv, Nat.reduceMod, get_nth, nth_zero, nth_succ]; rfl)) | (apply wantF; rfl; rfl; (simp only [Nat.reduceDiv, Nat.reduceMod, get_nth, nth_zero, nth_succ]; rfl)) | (apply wantTg; rfl; rfl; (simp only [Nat.reduceDiv, Nat.reduceMod, get_nth, nth_zero, nth_succ]; rfl)) | (apply wantFg; rfl; rfl; (simp only [Nat.reduceDiv, Nat.reduceMod, get_nth, nth_zero, nth_succ]; rfl)) | (apply wantU; rfl; rfl; (simp only [Nat.reduceDiv, Nat.reduceMod, get_nth, nth_zero, nth_succ]; rfl))); (intro h; (try simp only [Bool.and_eq_true, Bool.not_eq_true', Bool.not_eq_eq_eq_not, Bool.not_true] at h); simp only [h, hkb, hm8, len_SlH EA 0 _ _ (hsB _), len_SlH EA 0 _ _ hA2, ints_len, decide_true, Bool.not_true, not_true_eq_false, go_sem, Nat.reduceDiv, Nat.reduceMod, Nat.reduceAdd, Nat.reduceSub, Nat.reduceEqDiff, Nat.reduceLeDiff, Nat.reduceLT, Nat.reduceMul, reduceIte, Nat.reducePow, Int.reduceEq, List.toList_toArray]; (first | rfl | (apply ite_ok; (first | assumption | rfl | omega | (refine ⟨?_, ?_⟩ <;> omega)); rfl))); rfl)
       | (apply RO.call; exact want0 rfl; (simp only [hkb, hm8, len_SlH EA 0 _ _ (hsB _), len_SlH EA 0 _ _ hA2, ints_len, decide_true, Bool.not_true, not_true_eq_false, go_sem, Nat.reduceDiv, Nat.reduceMod, Nat.reduceAdd, Nat.reduceSub, Nat.reduceEqDiff, Nat.reduceLeDiff, Nat.reduceLT, Nat.reduceMul, reduceIte, Nat.reducePow, Int.reduceEq, List.toList_toArray]; rfl); (first | (apply hc3 <;> (first | assumption | rfl | omega | (refine ⟨?_, ?_⟩ <;> omega)))); rfl)
       | (apply RO.callg; (first | (apply wantT; rfl; rfl; (simp only [Nat.reduceDiv, Nat.reduceMod, get_nth, nth_zero, nth_succ]; rfl)) | (apply wantF; rfl; rfl; (simp only [Nat.reduceDiv, Nat.reduceMod, get_nth, nth_zero, nth_succ]; rfl)) | (apply wantTg; rfl; rfl; (simp only [Nat.reduceDiv, Nat.reduceMod, get_nth, nth_zero, nth_succ]; rfl)) | (apply wantFg; rfl; rfl; (simp only [Nat.reduceDiv, Nat.reduceMod, get_nth, nth_zero, nth_succ]; rfl)) | (apply wantU; rfl; rfl; (simp only [Nat.reduceDiv, Nat.reduceMod, get_nth, nth_zero, nth_succ]; rfl))); (intro h; (try simp only [Bool.and_eq_true, Bool.not_eq_true', Bool.not_eq_eq_eq_not, Bool.not_true] at h); simp only [h, hkb, hm8, len_SlH EA 0 _ _ (hsB _), len_SlH EA 0 _ _ hA2, ints_len, decide_true, Bool.not_true, not_true_eq_false, go_sem, Nat.reduceDiv, Nat.reduceMod, Nat.reduceAdd, Nat.reduceSub, Nat.reduceEqDiff, Nat.reduceLeDiff, Nat.reduceLT, Nat.reduceMul, reduceIte, Nat.reducePow, Int.reduceEq, List.toList_toArray]; rfl); (intro h; (try simp only [Bool.and_eq_true, Bool.not_eq_true', Bool.not_eq_eq_eq_not, Bool.not_true] at h); (first | (apply hc3 <;> (first | assumption | rfl | omega | (refine ⟨?_, ?_⟩ <;> omega))))); rfl)
       | (apply RO.no; apply wantNo; (first | (apply wantT; rfl; rfl; (simp only [Nat.reduceDiv, Nat.reduceMod, get_nth, nth_zero, nth_succ]; rfl)) | (apply wantF; rfl; rfl; (simp only [Nat.reduceDiv, Nat.reduceMod, get_nth, nth_zero, nth_succ]; rfl)) | (apply wantTg; rfl; rfl; (simp only [Nat.reduceDiv, Nat.reduceMod, get_nth, nth_zero, nth_succ]; rfl)) | (apply wantFg; rfl; rfl; (simp only [Nat.reduceDiv, Nat.reduceMod, get_nth, nth_zero, nth_succ]; rfl)) | (apply wantU; rfl; rfl; (simp only [Nat.reduceDiv, Nat.reduceMod, get_nth, nth_zero, nth_succ]; rfl))); (first | rfl | (simp only [hkb, hm8, len_SlH EA 0 _ _ (hsB _), len_SlH EA 0 _ _ hA2, ints_len, decide_true, Bool.not_true, not_true_eq_false, Bool.and_false, Bool.false_and, Bool.not_true, Bool.not_false, decide_true, decide_false, Bool.or_true, Bool.true_or, not_true_eq_false, not_false_eq_true, Bool.and_true, Bool.true_and]; done)); rfl))); done)); (focus kernel_rfl); (focus (first | (apply okPairs_kinds; (focus ((repeat (first | exact Kinds.nil | (apply Kinds.ro; (first | exact RoT.zero | exact RoT.rd | exact RoT.all | exact RoT.rdTr _ | assumption)) | apply Kinds.any)); done)); decide +kernel) | kernel_rfl)))
       | (refine V.cond rfl (fun h => ?_) (fun h => ?_) <;> (try simp only [decide_eq_true_eq, decide_eq_false_iff_not, Bool.and_eq_true, Bool.or_eq_true, Bool.and_eq_false_iff, Bool.or_eq_false_iff, Bool.not_eq_true', Bool.not_eq_false', Bool.not_true, Bool.not_false, Classical.not_not, Int.not_lt, Int.not_le, reduceCtorEq, not_true_eq_false, not_false_eq_true, decide_true, decide_false, Int.reduceEq, Int.reduceLT, Int.reduceLE] at h) <;> (try (exfalso; omega)))
       | (refine FnQ.normal (res0 Try.results4) rfl ?_; (try dsimp only))
       | (refine FnQ.ret (res0 Try.results4) rfl ?_; (try dsimp only))
       | (refine FnQ.ret (res1 Try.results4) (by simp only [Nat.reduceDiv, Nat.reduceMod, get_nth, nth_zero, nth_succ]; rfl) ?_; (try dsimp only))
       | (refine FnQ.ret (res2 Try.results4) (by simp only [Nat.reduceDiv, Nat.reduceMod, get_nth, nth_zero, nth_succ]; rfl) ?_; (try dsimp only))
       | (refine FnQ.retB (resc Try.results4) (by simp only [cellR_op, hkb, hm8, len_SlH EA 0 _ _ (hsB _), len_SlH EA 0 _ _ hA2, ints_len, decide_true, Bool.not_true, not_true_eq_false, go_sem, Nat.reduceDiv, Nat.reduceMod, Nat.reduceAdd, Nat.reduceSub, Nat.reduceEqDiff, Nat.reduceLeDiff, Nat.reduceLT, Nat.reduceMul, reduceIte, Nat.reducePow, Int.reduceEq, List.toList_toArray]; rfl) ?_; (try dsimp only))
       | (refine FnQ.retB (resct Try.results4) (by simp only [cellR_op, hkb, hm8, len_SlH EA 0 _ _ (hsB _), len_SlH EA 0 _ _ hA2, ints_len, decide_true, Bool.not_true, not_true_eq_false, go_sem, Nat.reduceDiv, Nat.reduceMod, Nat.reduceAdd, Nat.reduceSub, Nat.reduceEqDiff, Nat.reduceLeDiff, Nat.reduceLT, Nat.reduceMul, reduceIte, Nat.reducePow, Int.reduceEq, List.toList_toArray]; rfl) ?_; (try dsimp only)))
      · exfalso; simp at h
      · apply V.lpF [11, 4, 101, 102, 103, 104, 105, 106, 107, 108, 109, 110, 111, 112, 113, 114, 115, 116, 117, 118, 119, 120, 121, 122, 123, 124] (fun m xs => ∃ (j : Nat) (g : _), xs = .v (.int .i64 j) :: g ∧ m = L.length - j ∧ j ≤ L.length) L.length
        focus (intro xs; simp only [putMany, set2, Nat.reduceAdd, Nat.reduceDiv, Nat.reduceMod, nth_zero, nth_succ, List.set_cons_zero, List.set_cons_succ]; rfl)
        focus (first | rfl | simp only [readMany, nth_zero, nth_succ, Nat.reduceDiv, Nat.reduceMod])
        · exact ⟨0, _, rfl, rfl, Nat.zero_le _⟩
        · rintro m xs ⟨j, g', rfl, rfl, hj⟩
          repeat' (first
           | apply V.sq
           | apply V.bl
           | apply V.sc
           | apply V.skip
           | apply V.label
           | apply V.ret
           | apply V.exit
           | apply SeqQ.normal
           | apply SeqQ.ret
           | apply SeqQ.exit
           | apply BlockQ.normal
           | apply BlockQ.ret
           | apply BlockQ.here
           | (apply BlockQ.there; decide)
           | apply LoopS.ret
           | apply LoopS.exit
           | apply LoopF.ret
           | apply LoopF.exit
           | (apply V.reg; (focus ((repeat (first
           | exact RO.nil
           | (apply RO.op; rfl; (simp only [hkb, len_SlH EA 0 _ _ hA2, ints_len, go_sem, Nat.reduceDiv, Nat.reduceMod, Nat.reduceAdd, Nat.reduceSub, Nat.reduceEqDiff, Nat.reduceLeDiff, Nat.reduceLT, Nat.reduceMul, reduceIte, Nat.reducePow, Int.reduceEq, List.toList_toArray]; (first | rfl | (apply ite_ok; (first | assumption | rfl | omega | (refine ⟨?_, ?_⟩ <;> omega)); rfl))); rfl)
           | (apply RO.opg; (first | (apply wantT; rfl; rfl; (simp only [Nat.reduceDiv, Nat.reduceMod, get_nth, nth_zero, nth_succ]; rfl)) | (apply wantF; rfl; rfl; (simp only [Nat.reduceDiv, Nat.reduceMod, get_nth, nth_zero, nth_succ]; rfl)) | (apply wantTg; rfl; rfl; (simp only [Nat.reduceDiv, Nat.reduceMod, get_nth, nth_zero, nth_succ]; rfl)) | (apply wantFg; rfl; rfl; (simp only [Nat.reduceDiv, Nat.reduceMod, get_nth, nth_zero, nth_succ]; rfl)) | (apply wantU; rfl; rfl; (simp only [Nat.reduceDiv, Nat.reduceMod, get_nth, nth_zero, nth_succ]; rfl))); (intro h; (try simp only [Bool.and_eq_true, Bool.not_eq_true', Bool.not_eq_eq_eq_not, Bool.not_true] at h); simp only [h, hkb, len_SlH EA 0 _ _ hA2, ints_len, go_sem, Nat.reduceDiv, Nat.reduceMod, Nat.reduceAdd, Nat.reduceSub, Nat.reduceEqDiff, Nat.reduceLeDiff, Nat.reduceLT, Nat.reduceMul, reduceIte, Nat.reducePow, Int.reduceEq, List.toList_toArray]; (first | rfl | (apply ite_ok; (first | assumption | rfl | omega | (refine ⟨?_, ?_⟩ <;> omega)); rfl))); rfl)
           | (apply RO.call; exact want0 rfl; (simp only [hkb, len_SlH EA 0 _ _ hA2, ints_len, go_sem, Nat.reduceDiv, Nat.reduceMod, Nat.reduceAdd, Nat.reduceSub, Nat.reduceEqDiff, Nat.reduceLeDiff, Nat.reduceLT, Nat.reduceMul, reduceIte, Nat.reducePow, Int.reduceEq, List.toList_toArray]; rfl); fail; rfl)
           | (apply RO.callg; (first | (apply wantT; rfl; rfl; (simp only [Nat.reduceDiv, Nat.reduceMod, get_nth, nth_zero, nth_succ]; rfl)) | (apply wantF; rfl; rfl; (simp only [Nat.reduceDiv, Nat.reduceMod, get_nth, nth_zero, nth_succ]; rfl)) | (apply wantTg; rfl; rfl; (simp only [Nat.reduceDiv, Nat.reduceMod, get_nth, nth_zero, nth_succ]; rfl)) | (apply wantFg; rfl; rfl; (simp only [Nat.reduceDiv, Nat.reduceMod, get_nth, nth_zero, nth_succ]; rfl)) | (apply wantU; rfl; rfl; (simp only [Nat.reduceDiv, Nat.reduceMod, get_nth, nth_zero, nth_succ]; rfl))); (intro h; (try simp only [Bool.and_eq_true, Bool.not_eq_true', Bool.not_eq_eq_eq_not, Bool.not_true] at h); simp only [h, hkb, len_SlH EA 0 _ _ hA2, ints_len, go_sem, Nat.reduceDiv, Nat.reduceMod, Nat.reduceAdd, Nat.reduceSub, Nat.reduceEqDiff, Nat.reduceLeDiff, Nat.reduceLT, Nat.reduceMul, reduceIte, Nat.reducePow, Int.reduceEq, List.toList_toArray]; rfl); (intro h; (try simp only [Bool.and_eq_true, Bool.not_eq_true', Bool.not_eq_eq_eq_not, Bool.not_true] at h); fail); rfl)
           | (apply RO.no; apply wantNo; (first | (apply wantT; rfl; rfl; (simp only [Nat.reduceDiv, Nat.reduceMod, get_nth, nth_zero, nth_succ]; rfl)) | (apply wantF; rfl; rfl; (simp only [Nat.reduceDiv, Nat.reduceMod, get_nth, nth_zero, nth_succ]; rfl)) | (apply wantTg; rfl; rfl; (simp only [Nat.reduceDiv, Nat.reduceMod, get_nth, nth_zero, nth_succ]; rfl)) | (apply wantFg; rfl; rfl; (simp only [Nat.reduceDiv, Nat.reduceMod, get_nth, nth_zero, nth_succ]; rfl)) | (apply wantU; rfl; rfl; (simp only [Nat.reduceDiv, Nat.reduceMod, get_nth, nth_zero, nth_succ]; rfl))); (first | rfl | (simp only [hkb, len_SlH EA 0 _ _ hA2, ints_len, Bool.and_false, Bool.false_and, Bool.not_true, Bool.not_false, decide_true, decide_false, Bool.or_true, Bool.true_or, not_true_eq_false, not_false_eq_true, Bool.and_true, Bool.true_and]; done)); rfl))); done)))
           | (apply V.regd; (focus ((repeat (first
           | exact RO.nil
           | (apply RO.op; rfl; (simp only [hkb, len_SlH EA 0 _ _ hA2, ints_len, go_sem, Nat.reduceDiv, Nat.reduceMod, Nat.reduceAdd, Nat.reduceSub, Nat.reduceEqDiff, Nat.reduceLeDiff, Nat.reduceLT, Nat.reduceMul, reduceIte, Nat.reducePow, Int.reduceEq, List.toList_toArray]; (first | rfl | (apply ite_ok; (first | assumption | rfl | omega | (refine ⟨?_, ?_⟩ <;> omega)); rfl))); rfl)
           | (apply RO.opg; (first | (apply wantT; rfl; rfl; (simp only [Nat.reduceDiv, Nat.reduceMod, get_nth, nth_zero, nth_succ]; rfl)) | (apply wantF; rfl; rfl; (simp only [Nat.reduceDiv, Nat.reduceMod, get_nth, nth_zero, nth_succ]; rfl)) | (apply wantTg; rfl; rfl; (simp only [Nat.reduceDiv, Nat.reduceMod, get_nth, nth_zero, nth_succ]; rfl)) | (apply wantFg; rfl; rfl; (simp only [Nat.reduceDiv, Nat.reduceMod, get_nth, nth_zero, nth_succ]; rfl)) | (apply wantU; rfl; rfl; (simp only [Nat.reduceDiv, Nat.reduceMod, get_nth, nth_zero, nth_succ]; rfl))); (intro h; (try simp only [Bool.and_eq_true, Bool.not_eq_true', Bool.not_eq_eq_eq_not, Bool.not_true] at h); simp only [h, hkb, len_SlH EA 0 _ _ hA2, ints_len, go_sem, Nat.reduceDiv, Nat.reduceMod, Nat.reduceAdd, Nat.reduceSub, Nat.reduceEqDiff, Nat.reduceLeDiff, Nat.reduceLT, Nat.reduceMul, reduceIte, Nat.reducePow, Int.reduceEq, List.toList_toArray]; (first | rfl | (apply ite_ok; (first | assumption | rfl | omega | (refine ⟨?_, ?_⟩ <;> omega)); rfl))); rfl)
           | (apply RO.call; exact want0 rfl; (simp only [hkb, len_SlH EA 0 _ _ hA2, ints_len, go_sem, Nat.reduceDiv, Nat.reduceMod, Nat.reduceAdd, Nat.reduceSub, Nat.reduceEqDiff, Nat.reduceLeDiff, Nat.reduceLT, Nat.reduceMul, reduceIte, Nat.reducePow, Int.reduceEq, List.toList_toArray]; rfl); fail; rfl)
           | (apply RO.callg; (first | (apply wantT; rfl; rfl; (simp only [Nat.reduceDiv, Nat.reduceMod, get_nth, nth_zero, nth_succ]; rfl)) | (apply wantF; rfl; rfl; (simp only [Nat.reduceDiv, Nat.reduceMod, get_nth, nth_zero, nth_succ]; rfl)) | (apply wantTg; rfl; rfl; (simp only [Nat.reduceDiv, Nat.reduceMod, get_nth, nth_zero, nth_succ]; rfl)) | (apply wantFg; rfl; rfl; (simp only [Nat.reduceDiv, Nat.reduceMod, get_nth, nth_zero, nth_succ]; rfl)) | (apply wantU; rfl; rfl; (simp only [Nat.reduceDiv, Nat.reduceMod, get_nth, nth_zero, nth_succ]; rfl))); (intro h; (try simp only [Bool.and_eq_true, Bool.not_eq_true', Bool.not_eq_eq_eq_not, Bool.not_true] at h); simp only [h, hkb, len_SlH EA 0 _ _ hA2, ints_len, go_sem, Nat.reduceDiv, Nat.reduceMod, Nat.reduceAdd, Nat.reduceSub, Nat.reduceEqDiff, Nat.reduceLeDiff, Nat.reduceLT, Nat.reduceMul, reduceIte, Nat.reducePow, Int.reduceEq, List.toList_toArray]; rfl); (intro h; (try simp only [Bool.and_eq_true, Bool.not_eq_true', Bool.not_eq_eq_eq_not, Bool.not_true] at h); fail); rfl)
           | (apply RO.no; apply wantNo; (first | (apply wantT; rfl; rfl; (simp only [Nat.reduceDiv, Nat.reduceMod, get_nth, nth_zero, nth_succ]; rfl)) | (apply wantF; rfl; rfl; (simp only [Nat.reduceDiv, Nat.reduceMod, get_nth, nth_zero, nth_succ]; rfl)) | (apply wantTg; rfl; rfl; (simp only [Nat.reduceDiv, Nat.reduceMod, get_nth, nth_zero, nth_succ]; rfl)) | (apply wantFg; rfl; rfl; (simp only [Nat.reduceDiv, Nat.reduceMod, get_nth, nth_zero, nth_succ]; rfl)) | (apply wantU; rfl; rfl; (simp only [Nat.reduceDiv, Nat.reduceMod, get_nth, nth_zero, nth_succ]; rfl))); (first | rfl | (simp only [hkb, len_SlH EA 0 _ _ hA2, ints_len, Bool.and_false, Bool.false_and, Bool.not_true, Bool.not_false, decide_true, decide_false, Bool.or_true, Bool.true_or, not_true_eq_false, not_false_eq_true, Bool.and_true, Bool.true_and]; done)); rfl))); done)); (focus kernel_rfl); (focus (first | (apply okPairs_kinds; (focus ((repeat (first | exact Kinds.nil | (apply Kinds.ro; (first | exact RoT.zero | exact RoT.rd | exact RoT.all | exact RoT.rdTr _ | assumption)) | apply Kinds.any)); done)); decide +kernel) | kernel_rfl)))
           | (refine V.cond rfl (fun h => ?_) (fun h => ?_) <;> (try simp only [decide_eq_true_eq, decide_eq_false_iff_not, Bool.and_eq_true, Bool.or_eq_true, Bool.and_eq_false_iff, Bool.or_eq_false_iff, Bool.not_eq_true', Bool.not_eq_false', Bool.not_true, Bool.not_false, Classical.not_not, Int.not_lt, Int.not_le, reduceCtorEq, not_true_eq_false, not_false_eq_true, decide_true, decide_false, Int.reduceEq, Int.reduceLT, Int.reduceLE] at h) <;> (try (exfalso; omega)))
           | (refine FnQ.normal (res0 Try.results4) rfl ?_; (try dsimp only))
           | (refine FnQ.ret (res0 Try.results4) rfl ?_; (try dsimp only))
           | (refine FnQ.ret (res1 Try.results4) (by simp only [Nat.reduceDiv, Nat.reduceMod, get_nth, nth_zero, nth_succ]; rfl) ?_; (try dsimp only))
           | (refine FnQ.ret (res2 Try.results4) (by simp only [Nat.reduceDiv, Nat.reduceMod, get_nth, nth_zero, nth_succ]; rfl) ?_; (try dsimp only))
           | (refine FnQ.retB (resc Try.results4) (by simp only [cellR_op, hkb, len_SlH EA 0 _ _ hA2, ints_len, go_sem, Nat.reduceDiv, Nat.reduceMod, Nat.reduceAdd, Nat.reduceSub, Nat.reduceEqDiff, Nat.reduceLeDiff, Nat.reduceLT, Nat.reduceMul, reduceIte, Nat.reducePow, Int.reduceEq, List.toList_toArray]; rfl) ?_; (try dsimp only))
           | (refine FnQ.retB (resct Try.results4) (by simp only [cellR_op, hkb, len_SlH EA 0 _ _ hA2, ints_len, go_sem, Nat.reduceDiv, Nat.reduceMod, Nat.reduceAdd, Nat.reduceSub, Nat.reduceEqDiff, Nat.reduceLeDiff, Nat.reduceLT, Nat.reduceMul, reduceIte, Nat.reducePow, Int.reduceEq, List.toList_toArray]; rfl) ?_; (try dsimp only)))
          · have hj1 : j < L.length := by omega
            have hj1' : (j : Int) < (L.length : Int) := by omega
            have hj2 : j < l.length := by omega
            have hj2' : (j : Int) < (l.length : Int) := by omega
            have hgj : L.getD j 0 = min (numOf (l.getD j 0)) 9999 := by
              rw [← hL, List.getD_eq_getElem?_getD, List.getElem?_take_of_lt (by omega), List.getElem?_map, List.getElem?_eq_getElem hj2, List.getD_eq_getElem?_getD, List.getElem?_eq_getElem hj2]; rfl
            have hnu : max 0 ((l.getD j 0).tmod 1000000) = numOf (l.getD j 0) := rfl
            have hji := i64n j (by omega)
            repeat' (first
             | apply V.sq
             | apply V.bl
             | apply V.sc
             | apply V.skip
             | apply V.label
             | apply V.ret
             | apply V.exit
             | apply SeqQ.normal
             | apply SeqQ.ret
             | apply SeqQ.exit
             | apply BlockQ.normal
             | apply BlockQ.ret
             | apply BlockQ.here
             | (apply BlockQ.there; decide)
             | apply LoopS.ret
             | apply LoopS.exit
             | apply LoopF.ret
             | apply LoopF.exit
             | (apply V.reg; (focus ((repeat (first
             | exact RO.nil
             | (apply RO.op; rfl; (simp only [hkb, index_SlH EA 0 _ _ _ hA2, load_SlH EA 0 _ _ hA2, index_SlH EA 0 _ _ _ (hsB _), load_SlH EA 0 _ _ (hsB _), ints_len, hj1, hj1', hj2, hj2', nth_ints _ j hj1, nth_ints _ j hj2, hgj, hnu, hji, go_sem, Nat.reduceDiv, Nat.reduceMod, Nat.reduceAdd, Nat.reduceSub, Nat.reduceEqDiff, Nat.reduceLeDiff, Nat.reduceLT, Nat.reduceMul, reduceIte, Nat.reducePow, Int.reduceEq, List.toList_toArray]; (first | rfl | (apply ite_ok; (first | assumption | rfl | omega | (refine ⟨?_, ?_⟩ <;> omega)); rfl))); rfl)
             | (apply RO.opg; (first | (apply wantT; rfl; rfl; (simp only [Nat.reduceDiv, Nat.reduceMod, get_nth, nth_zero, nth_succ]; rfl)) | (apply wantF; rfl; rfl; (simp only [Nat.reduceDiv, Nat.reduceMod, get_nth, nth_zero, nth_succ]; rfl)) | (apply wantTg; rfl; rfl; (simp only [Nat.reduceDiv, Nat.reduceMod, get_nth, nth_zero, nth_succ]; rfl)) | (apply wantFg; rfl; rfl; (simp only [Nat.reduceDiv, Nat.reduceMod, get_nth, nth_zero, nth_succ]; rfl)) | (apply wantU; rfl; rfl; (simp only [Nat.reduceDiv, Nat.reduceMod, get_nth, nth_zero, nth_succ]; rfl))); (intro h; (try simp only [Bool.and_eq_true, Bool.not_eq_true', Bool.not_eq_eq_eq_not, Bool.not_true] at h); simp only [h, hkb, index_SlH EA 0 _ _ _ hA2, load_SlH EA 0 _ _ hA2, index_SlH EA 0 _ _ _ (hsB _), load_SlH EA 0 _ _ (hsB _), ints_len, hj1, hj1', hj2, hj2', nth_ints _ j hj1, nth_ints _ j hj2, hgj, hnu, hji, go_sem, Nat.reduceDiv, Nat.reduceMod, Nat.reduceAdd, Nat.reduceSub, Nat.reduceEqDiff, Nat.reduceLeDiff, Nat.reduceLT, Nat.reduceMul, reduceIte, Nat.reducePow, Int.reduceEq, List.toList_toArray]; (first | rfl | (apply ite_ok; (first | assumption | rfl | omega | (refine ⟨?_, ?_⟩ <;> omega)); rfl))); rfl)
             | (apply RO.call; exact want0 rfl; (simp only [hkb, index_SlH EA 0 _ _ _ hA2, load_SlH EA 0 _ _ hA2, index_SlH EA 0 _ _ _ (hsB _), load_SlH EA 0 _ _ (hsB _), ints_len, hj1, hj1', hj2, hj2', nth_ints _ j hj1, nth_ints _ j hj2, hgj, hnu, hji, go_sem, Nat.reduceDiv, Nat.reduceMod, Nat.reduceAdd, Nat.reduceSub, Nat.reduceEqDiff, Nat.reduceLeDiff, Nat.reduceLT, Nat.reduceMul, reduceIte, Nat.reducePow, Int.reduceEq, List.toList_toArray]; rfl); fail; rfl)
             | (apply RO.callg; (first | (apply wantT; rfl; rfl; (simp only [Nat.reduceDiv, Nat.reduceMod, get_nth, nth_zero, nth_succ]; rfl)) | (apply wantF; rfl; rfl; (simp only [Nat.reduceDiv, Nat.reduceMod, get_nth, nth_zero, nth_succ]; rfl)) | (apply wantTg; rfl; rfl; (simp only [Nat.reduceDiv, Nat.reduceMod, get_nth, nth_zero, nth_succ]; rfl)) | (apply wantFg; rfl; rfl; (simp only [Nat.reduceDiv, Nat.reduceMod, get_nth, nth_zero, nth_succ]; rfl)) | (apply wantU; rfl; rfl; (simp only [Nat.reduceDiv, Nat.reduceMod, get_nth, nth_zero, nth_succ]; rfl))); (intro h; (try simp only [Bool.and_eq_true, Bool.not_eq_true', Bool.not_eq_eq_eq_not, Bool.not_true] at h); simp only [h, hkb, index_SlH EA 0 _ _ _ hA2, load_SlH EA 0 _ _ hA2, index_SlH EA 0 _ _ _ (hsB _), load_SlH EA 0 _ _ (hsB _), ints_len, hj1, hj1', hj2, hj2', nth_ints _ j hj1, nth_ints _ j hj2, hgj, hnu, hji, go_sem, Nat.reduceDiv, Nat.reduceMod, Nat.reduceAdd, Nat.reduceSub, Nat.reduceEqDiff, Nat.reduceLeDiff, Nat.reduceLT, Nat.reduceMul, reduceIte, Nat.reducePow, Int.reduceEq, List.toList_toArray]; rfl); (intro h; (try simp only [Bool.and_eq_true, Bool.not_eq_true', Bool.not_eq_eq_eq_not, Bool.not_true] at h); fail); rfl)
             | (apply RO.no; apply wantNo; (first | (apply wantT; rfl; rfl; (simp only [Nat.reduceDiv, Nat.reduceMod, get_nth, nth_zero, nth_succ]; rfl)) | (apply wantF; rfl; rfl; (simp only [Nat.reduceDiv, Nat.reduceMod, get_nth, nth_zero, nth_succ]; rfl)) | (apply wantTg; rfl; rfl; (simp only [Nat.reduceDiv, Nat.reduceMod, get_nth, nth_zero, nth_succ]; rfl)) | (apply wantFg; rfl; rfl; (simp only [Nat.reduceDiv, Nat.reduceMod, get_nth, nth_zero, nth_succ]; rfl)) | (apply wantU; rfl; rfl; (simp only [Nat.reduceDiv, Nat.reduceMod, get_nth, nth_zero, nth_succ]; rfl))); (first | rfl | (simp only [hkb, index_SlH EA 0 _ _ _ hA2, load_SlH EA 0 _ _ hA2, index_SlH EA 0 _ _ _ (hsB _), load_SlH EA 0 _ _ (hsB _), ints_len, hj1, hj1', hj2, hj2', nth_ints _ j hj1, nth_ints _ j hj2, hgj, hnu, hji, Bool.and_false, Bool.false_and, Bool.not_true, Bool.not_false, decide_true, decide_false, Bool.or_true, Bool.true_or, not_true_eq_false, not_false_eq_true, Bool.and_true, Bool.true_and]; done)); rfl))); done)))
             | (apply V.regd; (focus ((repeat (first
             | exact RO.nil
             | (apply RO.op; rfl; (simp only [hkb, index_SlH EA 0 _ _ _ hA2, load_SlH EA 0 _ _ hA2, index_SlH EA 0 _ _ _ (hsB _), load_SlH EA 0 _ _ (hsB _), ints_len, hj1, hj1', hj2, hj2', nth_ints _ j hj1, nth_ints _ j hj2, hgj, hnu, hji, go_sem, Nat.reduceDiv, Nat.reduceMod, Nat.reduceAdd, Nat.reduceSub, Nat.reduceEqDiff, Nat.reduceLeDiff, Nat.reduceLT, Nat.reduceMul, reduceIte, Nat.reducePow, Int.reduceEq, List.toList_toArray]; (first | rfl | (apply ite_ok; (first | assumption | rfl | omega | (refine ⟨?_, ?_⟩ <;> omega)); rfl))); rfl)
             | (apply RO.opg; (first | (apply wantT; rfl; rfl; (simp only [Nat.reduceDiv, Nat.reduceMod, get_nth, nth_zero, nth_succ]; rfl)) | (apply wantF; rfl; rfl; (simp only [Nat.reduceDiv, Nat.reduceMod, get_nth, nth_zero, nth_succ]; rfl)) | (apply wantTg; rfl; rfl; (simp only [Nat.reduceDiv, Nat.reduceMod, get_nth, nth_zero, nth_succ]; rfl)) | (apply wantFg; rfl; rfl; (simp only [Nat.reduceDiv, Nat.reduceMod, get_nth, nth_zero, nth_succ]; rfl)) | (apply wantU; rfl; rfl; (simp only [Nat.reduceDiv, Nat.reduceMod, get_nth, nth_zero, nth_succ]; rfl))); (intro h; (try simp only [Bool.and_eq_true, Bool.not_eq_true', Bool.not_eq_eq_eq_not, Bool.not_true] at h); simp only [h, hkb, index_SlH EA 0 _ _ _ hA2, load_SlH EA 0 _ _ hA2, index_SlH EA 0 _ _ _ (hsB _), load_SlH EA 0 _ _ (hsB _), ints_len, hj1, hj1', hj2, hj2', nth_ints _ j hj1, nth_ints _ j hj2, hgj, hnu, hji, go_sem, Nat.reduceDiv, Nat.reduceMod, Nat.reduceAdd, Nat.reduceSub, Nat.reduceEqDiff, Nat.reduceLeDiff, Nat.reduceLT, Nat.reduceMul, reduceIte, Nat.reducePow, Int.reduceEq, List.toList_toArray]; (first | rfl | (apply ite_ok; (first | assumption | rfl | omega | (refine ⟨?_, ?_⟩ <;> omega)); rfl))); rfl)
             | (apply RO.call; exact want0 rfl; (simp only [hkb, index_SlH EA 0 _ _ _ hA2, load_SlH EA 0 _ _ hA2, index_SlH EA 0 _ _ _ (hsB _), load_SlH EA 0 _ _ (hsB _), ints_len, hj1, hj1', hj2, hj2', nth_ints _ j hj1, nth_ints _ j hj2, hgj, hnu, hji, go_sem, Nat.reduceDiv, Nat.reduceMod, Nat.reduceAdd, Nat.reduceSub, Nat.reduceEqDiff, Nat.reduceLeDiff, Nat.reduceLT, Nat.reduceMul, reduceIte, Nat.reducePow, Int.reduceEq, List.toList_toArray]; rfl); fail; rfl)
             | (apply RO.callg; (first | (apply wantT; rfl; rfl; (simp only [Nat.reduceDiv, Nat.reduceMod, get_nth, nth_zero, nth_succ]; rfl)) | (apply wantF; rfl; rfl; (simp only [Nat.reduceDiv, Nat.reduceMod, get_nth, nth_zero, nth_succ]; rfl)) | (apply wantTg; rfl; rfl; (simp only [Nat.reduceDiv, Nat.reduceMod, get_nth, nth_zero, nth_succ]; rfl)) | (apply wantFg; rfl; rfl; (simp only [Nat.reduceDiv, Nat.reduceMod, get_nth, nth_zero, nth_succ]; rfl)) | (apply wantU; rfl; rfl; (simp only [Nat.reduceDiv, Nat.reduceMod, get_nth, nth_zero, nth_succ]; rfl))); (intro h; (try simp only [Bool.and_eq_true, Bool.not_eq_true', Bool.not_eq_eq_eq_not, Bool.not_true] at h); simp only [h, hkb, index_SlH EA 0 _ _ _ hA2, load_SlH EA 0 _ _ hA2, index_SlH EA 0 _ _ _ (hsB _), load_SlH EA 0 _ _ (hsB _), ints_len, hj1, hj1', hj2, hj2', nth_ints _ j hj1, nth_ints _ j hj2, hgj, hnu, hji, go_sem, Nat.reduceDiv, Nat.reduceMod, Nat.reduceAdd, Nat.reduceSub, Nat.reduceEqDiff, Nat.reduceLeDiff, Nat.reduceLT, Nat.reduceMul, reduceIte, Nat.reducePow, Int.reduceEq, List.toList_toArray]; rfl); (intro h; (try simp only [Bool.and_eq_true, Bool.not_eq_true', Bool.not_eq_eq_eq_not, Bool.not_true] at h); fail); rfl)
             | (apply RO.no; apply wantNo; (first | (apply wantT; rfl; rfl; (simp only [Nat.reduceDiv, Nat.reduceMod, get_nth, nth_zero, nth_succ]; rfl)) | (apply wantF; rfl; rfl; (simp only [Nat.reduceDiv, Nat.reduceMod, get_nth, nth_zero, nth_succ]; rfl)) | (apply wantTg; rfl; rfl; (simp only [Nat.reduceDiv, Nat.reduceMod, get_nth, nth_zero, nth_succ]; rfl)) | (apply wantFg; rfl; rfl; (simp only [Nat.reduceDiv, Nat.reduceMod, get_nth, nth_zero, nth_succ]; rfl)) | (apply wantU; rfl; rfl; (simp only [Nat.reduceDiv, Nat.reduceMod, get_nth, nth_zero, nth_succ]; rfl))); (first | rfl | (simp only [hkb, index_SlH EA 0 _ _ _ hA2, load_SlH EA 0 _ _ hA2, index_SlH EA 0 _ _ _ (hsB _), load_SlH EA 0 _ _ (hsB _), ints_len, hj1, hj1', hj2, hj2', nth_ints _ j hj1, nth_ints _ j hj2, hgj, hnu, hji, Bool.and_false, Bool.false_and, Bool.not_true, Bool.not_false, decide_true, decide_false, Bool.or_true, Bool.true_or, not_true_eq_false, not_false_eq_true, Bool.and_true, Bool.true_and]; done)); rfl))); done)); (focus kernel_rfl); (focus (first | (apply okPairs_kinds; (focus ((repeat (first | exact Kinds.nil | (apply Kinds.ro; (first | exact RoT.zero | exact RoT.rd | exact RoT.all | exact RoT.rdTr _ | assumption)) | apply Kinds.any)); done)); decide +kernel) | kernel_rfl)))
             | (refine V.cond rfl (fun h => ?_) (fun h => ?_) <;> (try simp only [decide_eq_true_eq, decide_eq_false_iff_not, Bool.and_eq_true, Bool.or_eq_true, Bool.and_eq_false_iff, Bool.or_eq_false_iff, Bool.not_eq_true', Bool.not_eq_false', Bool.not_true, Bool.not_false, Classical.not_not, Int.not_lt, Int.not_le, reduceCtorEq, not_true_eq_false, not_false_eq_true, decide_true, decide_false, Int.reduceEq, Int.reduceLT, Int.reduceLE] at h) <;> (try (exfalso; omega)))
             | (refine FnQ.normal (res0 Try.results4) rfl ?_; (try dsimp only))
             | (refine FnQ.ret (res0 Try.results4) rfl ?_; (try dsimp only))
             | (refine FnQ.ret (res1 Try.results4) (by simp only [Nat.reduceDiv, Nat.reduceMod, get_nth, nth_zero, nth_succ]; rfl) ?_; (try dsimp only))
             | (refine FnQ.ret (res2 Try.results4) (by simp only [Nat.reduceDiv, Nat.reduceMod, get_nth, nth_zero, nth_succ]; rfl) ?_; (try dsimp only))
             | (refine FnQ.retB (resc Try.results4) (by simp only [cellR_op, hkb, index_SlH EA 0 _ _ _ hA2, load_SlH EA 0 _ _ hA2, index_SlH EA 0 _ _ _ (hsB _), load_SlH EA 0 _ _ (hsB _), ints_len, hj1, hj1', hj2, hj2', nth_ints _ j hj1, nth_ints _ j hj2, hgj, hnu, hji, go_sem, Nat.reduceDiv, Nat.reduceMod, Nat.reduceAdd, Nat.reduceSub, Nat.reduceEqDiff, Nat.reduceLeDiff, Nat.reduceLT, Nat.reduceMul, reduceIte, Nat.reducePow, Int.reduceEq, List.toList_toArray]; rfl) ?_; (try dsimp only))
             | (refine FnQ.retB (resct Try.results4) (by simp only [cellR_op, hkb, index_SlH EA 0 _ _ _ hA2, load_SlH EA 0 _ _ hA2, index_SlH EA 0 _ _ _ (hsB _), load_SlH EA 0 _ _ (hsB _), ints_len, hj1, hj1', hj2, hj2', nth_ints _ j hj1, nth_ints _ j hj2, hgj, hnu, hji, go_sem, Nat.reduceDiv, Nat.reduceMod, Nat.reduceAdd, Nat.reduceSub, Nat.reduceEqDiff, Nat.reduceLeDiff, Nat.reduceLT, Nat.reduceMul, reduceIte, Nat.reducePow, Int.reduceEq, List.toList_toArray]; rfl) ?_; (try dsimp only)))
            exact LoopF.again (L.length - (j + 1)) (by rfl) (by omega) ⟨j + 1, _, rfl, rfl, by omega⟩
theorem EscNumbers_law (A : AV) (l : List Int) (hA : Sl 1 A (ints l)) (hr : ∀ c ∈ l, (Lit.int .i64 c).wf = true) (c : Int) (hc : (Lit.int .i32 c).wf = true) : WC EA [] 0 4 [A, .v (.int .i32 c)] .empty fun x _ => x = .v (.bool true) := EscNumbers_wc A l hA (fun c h => i64_wf (hr c h)) c (i32_wf hc)
end
end Go.Am
