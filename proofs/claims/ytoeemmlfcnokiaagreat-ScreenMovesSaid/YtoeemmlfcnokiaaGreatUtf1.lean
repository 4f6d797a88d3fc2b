/- The reference's signs of a text: forms, One, value, All. -/
import Derived.Test.YtoeemmlfcnokiaaGreatEscQ
set_option linter.all false
set_option linter.deprecated false
namespace Go.Am
open Go.Proofs
set_option maxRecDepth 8000
set_option maxHeartbeats 1000000
section
variable {ys : List (Nat × LRec)} {lo : Nat} {H : AHeap}
def formsL : List (List Int × List Int) := [([0], [127]), ([194, 128], [223, 191]), ([224, 160, 128], [224, 191, 191]), ([225, 128, 128], [236, 191, 191]), ([237, 128, 128], [237, 159, 191]), ([238, 128, 128], [239, 191, 191]), ([240, 144, 128, 128], [240, 191, 191, 191]), ([241, 128, 128, 128], [243, 191, 191, 191]), ([244, 128, 128, 128], [244, 143, 191, 191])]
def formA (p : List Int × List Int) : List AV := [.sl 1 (bytesL p.1), .sl 1 (bytesL p.2)]
theorem forms_eval : (acall EZ [] 50 0 88 [] .empty).map (fun p => frzR p.2 0 p.1) = some (.sl 2 (formsL.map formA)) := by kernel_rfl
theorem forms_call : CallR EZ ys lo 88 [] H (.sl 2 (formsL.map formA)) H ⟨0, 0, 0⟩ := by
  obtain ⟨⟨r, H'⟩, h1, h2⟩ := Option.map_eq_some_iff.1 forms_eval
  exact WC.pure' (E := EZ) rfl rfl ⟨_, r, H', h1, h2⟩ _ _ _
theorem forms_len : ∀ i, i < 9 → (formsL.getD i ([], [])).1.length = (formsL.getD i ([], [])).2.length ∧ 1 ≤ (formsL.getD i ([], [])).1.length ∧ (formsL.getD i ([], [])).1.length ≤ 4 := by decide
theorem index_strD (E : Env) (lo : Nat) (H : AHeap) (t : TypeId) (s : ByteArray) (κ : IntKind) (i : Nat) (ht : isStrT E.P t = true) (h : decide ((i : Int) < (s.size : Int)) = true) : primL lo H (indexA E t (.v (.string s)) (.v (.int κ (i : Int)))) = some (.v (.int .u8 ((s.data.toList.getD i 0).toNat : Int)), H, ⟨0, 0, 0⟩) := by
  have e : s.size = s.data.toList.length := rfl
  have h1 : i < s.data.toList.length := by have := of_decide_eq_true h; omega
  simp only [indexA, isStrT_ok ht]
  rw [if_pos (by omega), Int.toNat_natCast, List.getElem?_eq_getElem h1, List.getD_eq_getElem?_getD, List.getElem?_eq_getElem h1]
  rfl
theorem index_bytesD (E : Env) (lo : Nat) (H : AHeap) (t : TypeId) (l : List Int) (κ : IntKind) (i : Nat) (ht : slSz E.P t = some 1) (h : decide ((i : Int) < (l.length : Int)) = true) : primL lo H (indexAddrA E t (.sl 1 (bytesL l)) (.v (.int κ (i : Int)))) = some (.fp [.v (.int .u8 (l.getD i 0))], H, ⟨0, 0, 0⟩) := by
  have h1 := of_decide_eq_true h
  rw [indexAddrA_sl E lo H t 1 _ κ i ht, if_pos ⟨by omega, by rw [bytesL_len]; exact h1, rfl⟩, Int.toNat_natCast, nth_bytesL l i (by omega)]
theorem byte_range (b : UInt8) : 0 ≤ (b.toNat : Int) ∧ (b.toNat : Int) ≤ 255 := by have := b.toNat_lt; omega
theorem slice_str (E : Env) (t : TypeId) (s : ByteArray) (a b : Option AV) {l r : Nat} (ht : isStrT E.P t = true) (ha : bound? a 0 = some l) (hb : bound? b s.size = some r) (h1 : l ≤ r) (h2 : r ≤ s.size) : sliceA E t (.v (.string s)) a b none = .val (.v (.string (s.extract l r))) := by
  simp only [sliceA, ha, hb]
  rw [if_pos ⟨h1, h2, ht⟩]
theorem extract_size (s : ByteArray) (l r : Nat) (h1 : l ≤ r) (h2 : r ≤ s.size) : (s.extract l r).size = r - l := by
  rw [ByteArray.size_extract]; omega
theorem frz_own {H : AHeap} {F : Nat → Prop} {elem sz : Nat} {x : AV} {es : List (List AV)} (h : OwnS H F elem sz x es) (hz : 0 < sz) (hf : FlatE es) : ∃ y, frzR1 H 0 x = y ∧ Sl sz y es := by
  rcases h with ⟨rfl, rfl | rfl⟩ | ⟨m, e, rfl, _, _, hb⟩
  · exact ⟨.e0, rfl, .inr ⟨rfl, .inl rfl⟩⟩
  · exact ⟨nilA, rfl, .inr ⟨rfl, .inr rfl⟩⟩
  · refine ⟨.sl sz es, ?_, .inl rfl⟩
    rw [frzR1_os H 0 (Nat.zero_le _) hb rfl rfl (by simp) hz hf]
    simp
theorem flat_runes (l : List Int) : FlatE (runes l) := FlatE.map (fun a x hx => by simp at hx; subst hx; rfl) l
theorem One_wc (lo : Nat) (H : AHeap) (s : ByteArray) (hs : s.size < 2 ^ 40) : WC EZ [] lo 59 [.v (.string s)] H fun x _ => ∃ (n : Nat) (ok : Bool), x = .tup [.v (.int .i64 n), .v (.bool ok)] ∧ n ≤ s.size ∧ n ≤ 4 ∧ (ok = true → 1 ≤ n) := by
  refine zvin Tryz.func59 Tryz.ntmps59 ?_
  repeat' (first
   | apply V.sq
   | apply V.bl
   | apply V.sc
   | apply V.skip
   | apply V.label
   | apply V.ret
   | apply V.exit
   | apply SeqQ.normal
   | apply SeqQ.ret
   | apply SeqQ.exit
   | apply BlockQ.normal
   | apply BlockQ.ret
   | apply BlockQ.here
   | refine zbt ?_
   | apply LoopS.ret
   | apply LoopS.exit
   | apply LoopF.ret
   | apply LoopF.exit
   | (apply V.reg; (focus ((repeat (first
   | exact RO.nil
   | (apply RO.op; rfl; (simp only [go_sem, get_nth, fieldAddrA, Nat.reduceDiv, Nat.reduceMod, Nat.reduceAdd, Nat.reduceSub, Nat.reduceEqDiff, Nat.reduceLeDiff, Nat.reduceLT, Nat.reduceMul, reduceIte, Nat.reducePow, Int.reduceEq, List.toList_toArray]; exact zL); rfl)
   | (apply RO.opg; exact zW; (intro h; (try simp only [Bool.and_eq_true, Bool.not_eq_true', Bool.not_eq_eq_eq_not, Bool.not_true] at h); simp only [h, go_sem, get_nth, fieldAddrA, Nat.reduceDiv, Nat.reduceMod, Nat.reduceAdd, Nat.reduceSub, Nat.reduceEqDiff, Nat.reduceLeDiff, Nat.reduceLT, Nat.reduceMul, reduceIte, Nat.reducePow, Int.reduceEq, List.toList_toArray]; exact zL); rfl)
   | (apply RO.call; exact want0 rfl; (simp only [go_sem, get_nth, fieldAddrA, Nat.reduceDiv, Nat.reduceMod, Nat.reduceAdd, Nat.reduceSub, Nat.reduceEqDiff, Nat.reduceLeDiff, Nat.reduceLT, Nat.reduceMul, reduceIte, Nat.reducePow, Int.reduceEq, List.toList_toArray]; rfl); (first | (apply forms_call <;> (exact zD))); rfl)
   | (apply RO.callg; exact zW; (intro h; (try simp only [Bool.and_eq_true, Bool.not_eq_true', Bool.not_eq_eq_eq_not, Bool.not_true] at h); simp only [h, go_sem, get_nth, fieldAddrA, Nat.reduceDiv, Nat.reduceMod, Nat.reduceAdd, Nat.reduceSub, Nat.reduceEqDiff, Nat.reduceLeDiff, Nat.reduceLT, Nat.reduceMul, reduceIte, Nat.reducePow, Int.reduceEq, List.toList_toArray]; rfl); (intro h; (try simp only [Bool.and_eq_true, Bool.not_eq_true', Bool.not_eq_eq_eq_not, Bool.not_true] at h); (first | (apply forms_call <;> (exact zD)))); rfl)
   | (apply RO.no; apply wantNo; exact zW; (first | rfl | (focus (simp only [Bool.and_false, Bool.false_and, Bool.not_true, Bool.not_false, decide_true, decide_false, Bool.or_true, Bool.true_or, not_true_eq_false, not_false_eq_true, Bool.and_true, Bool.true_and]; done))); rfl))); done)))
   | (apply V.regd; (focus ((repeat (first
   | exact RO.nil
   | (apply RO.op; rfl; (simp only [go_sem, get_nth, fieldAddrA, Nat.reduceDiv, Nat.reduceMod, Nat.reduceAdd, Nat.reduceSub, Nat.reduceEqDiff, Nat.reduceLeDiff, Nat.reduceLT, Nat.reduceMul, reduceIte, Nat.reducePow, Int.reduceEq, List.toList_toArray]; exact zL); rfl)
   | (apply RO.opg; exact zW; (intro h; (try simp only [Bool.and_eq_true, Bool.not_eq_true', Bool.not_eq_eq_eq_not, Bool.not_true] at h); simp only [h, go_sem, get_nth, fieldAddrA, Nat.reduceDiv, Nat.reduceMod, Nat.reduceAdd, Nat.reduceSub, Nat.reduceEqDiff, Nat.reduceLeDiff, Nat.reduceLT, Nat.reduceMul, reduceIte, Nat.reducePow, Int.reduceEq, List.toList_toArray]; exact zL); rfl)
   | (apply RO.call; exact want0 rfl; (simp only [go_sem, get_nth, fieldAddrA, Nat.reduceDiv, Nat.reduceMod, Nat.reduceAdd, Nat.reduceSub, Nat.reduceEqDiff, Nat.reduceLeDiff, Nat.reduceLT, Nat.reduceMul, reduceIte, Nat.reducePow, Int.reduceEq, List.toList_toArray]; rfl); (first | (apply forms_call <;> (exact zD))); rfl)
   | (apply RO.callg; exact zW; (intro h; (try simp only [Bool.and_eq_true, Bool.not_eq_true', Bool.not_eq_eq_eq_not, Bool.not_true] at h); simp only [h, go_sem, get_nth, fieldAddrA, Nat.reduceDiv, Nat.reduceMod, Nat.reduceAdd, Nat.reduceSub, Nat.reduceEqDiff, Nat.reduceLeDiff, Nat.reduceLT, Nat.reduceMul, reduceIte, Nat.reducePow, Int.reduceEq, List.toList_toArray]; rfl); (intro h; (try simp only [Bool.and_eq_true, Bool.not_eq_true', Bool.not_eq_eq_eq_not, Bool.not_true] at h); (first | (apply forms_call <;> (exact zD)))); rfl)
   | (apply RO.no; apply wantNo; exact zW; (first | rfl | (focus (simp only [Bool.and_false, Bool.false_and, Bool.not_true, Bool.not_false, decide_true, decide_false, Bool.or_true, Bool.true_or, not_true_eq_false, not_false_eq_true, Bool.and_true, Bool.true_and]; done))); rfl))); done)); exact zK; exact zE)
   | (refine zvf (fun h => ?_) (fun h => ?_) <;> (replace h := zB h) <;> (try (exfalso; first | exact h | omega)))
   | (refine zfd Tryz.results59 ?_; (try dsimp only)))
  apply V.lpF [6, 5, 2, 3, 7, 9, 10, 11, 12, 13, 14, 15, 16, 17, 18, 19, 20, 21, 22, 23, 24, 25, 26, 27, 28, 29, 30, 31, 32, 33, 34, 35, 36, 37, 38, 39, 40, 41, 42, 43, 44, 45, 46, 47, 48, 49, 50, 51, 52, 53, 54, 55, 56, 57, 58, 59, 60, 61, 62, 63, 64, 65, 66, 67, 68, 69, 70] (fun m xs => ∃ (i b : Nat) (g : _), xs = .v (.int .i64 i) :: .v (.int .i64 b) :: g ∧ m = 9 - i ∧ i ≤ 9 ∧ b ≤ s.size ∧ b ≤ 4) 9
  focus (intro xs; simp only [putMany, set2, Nat.reduceAdd, Nat.reduceDiv, Nat.reduceMod, nth_zero, nth_succ, List.set_cons_zero, List.set_cons_succ]; rfl)
  focus (first | rfl | simp only [readMany, nth_zero, nth_succ, Nat.reduceDiv, Nat.reduceMod])
  · exact ⟨0, 0, _, rfl, rfl, by omega, by omega, by omega⟩
  · rintro m xs ⟨i, b, g, rfl, rfl, hi, hb, hb4⟩
    have hfl : (formsL.map formA).length = 9 := rfl
    have hlen := len_sl EZ 117 3 2 (formsL.map formA) (by kernel_rfl)
    repeat' (first
     | apply V.sq
     | apply V.bl
     | apply V.sc
     | apply V.skip
     | apply V.label
     | apply V.ret
     | apply V.exit
     | apply SeqQ.normal
     | apply SeqQ.ret
     | apply SeqQ.exit
     | apply BlockQ.normal
     | apply BlockQ.ret
     | apply BlockQ.here
     | refine zbt ?_
     | apply LoopS.ret
     | apply LoopS.exit
     | apply LoopF.ret
     | apply LoopF.exit
     | (apply V.reg; (focus ((repeat (first
     | exact RO.nil
     | (apply RO.op; rfl; (simp only [hlen, hfl, go_sem, get_nth, fieldAddrA, Nat.reduceDiv, Nat.reduceMod, Nat.reduceAdd, Nat.reduceSub, Nat.reduceEqDiff, Nat.reduceLeDiff, Nat.reduceLT, Nat.reduceMul, reduceIte, Nat.reducePow, Int.reduceEq, List.toList_toArray]; exact zL); rfl)
     | (apply RO.opg; exact zW; (intro h; (try simp only [Bool.and_eq_true, Bool.not_eq_true', Bool.not_eq_eq_eq_not, Bool.not_true] at h); simp only [h, hlen, hfl, go_sem, get_nth, fieldAddrA, Nat.reduceDiv, Nat.reduceMod, Nat.reduceAdd, Nat.reduceSub, Nat.reduceEqDiff, Nat.reduceLeDiff, Nat.reduceLT, Nat.reduceMul, reduceIte, Nat.reducePow, Int.reduceEq, List.toList_toArray]; exact zL); rfl)
     | (apply RO.call; exact want0 rfl; (simp only [hlen, hfl, go_sem, get_nth, fieldAddrA, Nat.reduceDiv, Nat.reduceMod, Nat.reduceAdd, Nat.reduceSub, Nat.reduceEqDiff, Nat.reduceLeDiff, Nat.reduceLT, Nat.reduceMul, reduceIte, Nat.reducePow, Int.reduceEq, List.toList_toArray]; rfl); fail; rfl)
     | (apply RO.callg; exact zW; (intro h; (try simp only [Bool.and_eq_true, Bool.not_eq_true', Bool.not_eq_eq_eq_not, Bool.not_true] at h); simp only [h, hlen, hfl, go_sem, get_nth, fieldAddrA, Nat.reduceDiv, Nat.reduceMod, Nat.reduceAdd, Nat.reduceSub, Nat.reduceEqDiff, Nat.reduceLeDiff, Nat.reduceLT, Nat.reduceMul, reduceIte, Nat.reducePow, Int.reduceEq, List.toList_toArray]; rfl); (intro h; (try simp only [Bool.and_eq_true, Bool.not_eq_true', Bool.not_eq_eq_eq_not, Bool.not_true] at h); fail); rfl)
     | (apply RO.no; apply wantNo; exact zW; (first | rfl | (focus (simp only [hlen, hfl, Bool.and_false, Bool.false_and, Bool.not_true, Bool.not_false, decide_true, decide_false, Bool.or_true, Bool.true_or, not_true_eq_false, not_false_eq_true, Bool.and_true, Bool.true_and]; done))); rfl))); done)))
     | (apply V.regd; (focus ((repeat (first
     | exact RO.nil
     | (apply RO.op; rfl; (simp only [hlen, hfl, go_sem, get_nth, fieldAddrA, Nat.reduceDiv, Nat.reduceMod, Nat.reduceAdd, Nat.reduceSub, Nat.reduceEqDiff, Nat.reduceLeDiff, Nat.reduceLT, Nat.reduceMul, reduceIte, Nat.reducePow, Int.reduceEq, List.toList_toArray]; exact zL); rfl)
     | (apply RO.opg; exact zW; (intro h; (try simp only [Bool.and_eq_true, Bool.not_eq_true', Bool.not_eq_eq_eq_not, Bool.not_true] at h); simp only [h, hlen, hfl, go_sem, get_nth, fieldAddrA, Nat.reduceDiv, Nat.reduceMod, Nat.reduceAdd, Nat.reduceSub, Nat.reduceEqDiff, Nat.reduceLeDiff, Nat.reduceLT, Nat.reduceMul, reduceIte, Nat.reducePow, Int.reduceEq, List.toList_toArray]; exact zL); rfl)
     | (apply RO.call; exact want0 rfl; (simp only [hlen, hfl, go_sem, get_nth, fieldAddrA, Nat.reduceDiv, Nat.reduceMod, Nat.reduceAdd, Nat.reduceSub, Nat.reduceEqDiff, Nat.reduceLeDiff, Nat.reduceLT, Nat.reduceMul, reduceIte, Nat.reducePow, Int.reduceEq, List.toList_toArray]; rfl); fail; rfl)
     | (apply RO.callg; exact zW; (intro h; (try simp only [Bool.and_eq_true, Bool.not_eq_true', Bool.not_eq_eq_eq_not, Bool.not_true] at h); simp only [h, hlen, hfl, go_sem, get_nth, fieldAddrA, Nat.reduceDiv, Nat.reduceMod, Nat.reduceAdd, Nat.reduceSub, Nat.reduceEqDiff, Nat.reduceLeDiff, Nat.reduceLT, Nat.reduceMul, reduceIte, Nat.reducePow, Int.reduceEq, List.toList_toArray]; rfl); (intro h; (try simp only [Bool.and_eq_true, Bool.not_eq_true', Bool.not_eq_eq_eq_not, Bool.not_true] at h); fail); rfl)
     | (apply RO.no; apply wantNo; exact zW; (first | rfl | (focus (simp only [hlen, hfl, Bool.and_false, Bool.false_and, Bool.not_true, Bool.not_false, decide_true, decide_false, Bool.or_true, Bool.true_or, not_true_eq_false, not_false_eq_true, Bool.and_true, Bool.true_and]; done))); rfl))); done)); exact zK; exact zE)
     | (refine zvf (fun h => ?_) (fun h => ?_) <;> (replace h := zB h) <;> (try (exfalso; first | exact h | omega)))
     | (refine zfd Tryz.results59 ?_; (try dsimp only)))
    · have h9 : i < 9 := by omega
      obtain ⟨hl1, hl2, hl3⟩ := forms_len i h9
      have hsl : SlH H 2 (.sl 2 (formsL.map formA)) (formsL.map formA) := .inl (.inl rfl)
      have hix := index_SlH EZ lo (H := H) 117 .i64 (i : Int) hsl (by kernel_rfl) (by omega) (by rw [hfl]; omega)
      rw [Int.toNat_natCast] at hix
      have hixA : ixA (.sl 2 (formsL.map formA)) (formsL.map formA) i = .fp [.sl 1 (bytesL (formsL.getD i ([], [])).1), .sl 1 (bytesL (formsL.getD i ([], [])).2)] := by
        show AV.fp (nth [] (formsL.map formA) i) = _
        rw [nth_map formA formsL i ([], []) (by show i < 9; exact h9)]; rfl
      rw [hixA] at hix
      generalize (formsL.getD i ([], [])).1 = fl at *
      generalize (formsL.getD i ([], [])).2 = fh at *
      have hll := len_sl EZ 26 3 1 (bytesL fl) (by kernel_rfl)
      apply V.lpF [7, 15, 16, 17, 18, 19, 20, 21, 22, 23, 24, 25, 26, 27, 28, 29, 30, 31, 32, 33, 34, 35, 36, 37, 38, 39, 40, 41, 42, 43, 44, 45, 46, 47, 48, 49, 50, 51, 52, 53, 54, 55, 56, 57, 58] (fun m xs => ∃ (n : Nat) (g : _), xs = .v (.int .i64 n) :: g ∧ m = fl.length - n ∧ n ≤ fl.length ∧ n ≤ s.size) fl.length
      focus (intro xs; simp only [putMany, set2, Nat.reduceAdd, Nat.reduceDiv, Nat.reduceMod, nth_zero, nth_succ, List.set_cons_zero, List.set_cons_succ]; rfl)
      focus (first | rfl | simp only [readMany, nth_zero, nth_succ, Nat.reduceDiv, Nat.reduceMod])
      · exact ⟨0, _, rfl, rfl, Nat.zero_le _, Nat.zero_le _⟩
      · rintro m xs ⟨n, g', rfl, rfl, hn, hns⟩
        repeat' (first
         | apply V.sq
         | apply V.bl
         | apply V.sc
         | apply V.skip
         | apply V.label
         | apply V.ret
         | apply V.exit
         | apply SeqQ.normal
         | apply SeqQ.ret
         | apply SeqQ.exit
         | apply BlockQ.normal
         | apply BlockQ.ret
         | apply BlockQ.here
         | refine zbt ?_
         | apply LoopS.ret
         | apply LoopS.exit
         | apply LoopF.ret
         | apply LoopF.exit
         | (apply V.reg; (focus ((repeat (first
         | exact RO.nil
         | (apply RO.op; rfl; (simp only [hix, hll, bytesL_len, index_strD, index_bytesD, ← hl1, go_sem, get_nth, fieldAddrA, Nat.reduceDiv, Nat.reduceMod, Nat.reduceAdd, Nat.reduceSub, Nat.reduceEqDiff, Nat.reduceLeDiff, Nat.reduceLT, Nat.reduceMul, reduceIte, Nat.reducePow, Int.reduceEq, List.toList_toArray]; exact zL); rfl)
         | (apply RO.opg; exact zW; (intro h; (try simp only [Bool.and_eq_true, Bool.not_eq_true', Bool.not_eq_eq_eq_not, Bool.not_true] at h); simp only [h, hix, hll, bytesL_len, index_strD, index_bytesD, ← hl1, go_sem, get_nth, fieldAddrA, Nat.reduceDiv, Nat.reduceMod, Nat.reduceAdd, Nat.reduceSub, Nat.reduceEqDiff, Nat.reduceLeDiff, Nat.reduceLT, Nat.reduceMul, reduceIte, Nat.reducePow, Int.reduceEq, List.toList_toArray]; exact zL); rfl)
         | (apply RO.call; exact want0 rfl; (simp only [hix, hll, bytesL_len, index_strD, index_bytesD, ← hl1, go_sem, get_nth, fieldAddrA, Nat.reduceDiv, Nat.reduceMod, Nat.reduceAdd, Nat.reduceSub, Nat.reduceEqDiff, Nat.reduceLeDiff, Nat.reduceLT, Nat.reduceMul, reduceIte, Nat.reducePow, Int.reduceEq, List.toList_toArray]; rfl); fail; rfl)
         | (apply RO.callg; exact zW; (intro h; (try simp only [Bool.and_eq_true, Bool.not_eq_true', Bool.not_eq_eq_eq_not, Bool.not_true] at h); simp only [h, hix, hll, bytesL_len, index_strD, index_bytesD, ← hl1, go_sem, get_nth, fieldAddrA, Nat.reduceDiv, Nat.reduceMod, Nat.reduceAdd, Nat.reduceSub, Nat.reduceEqDiff, Nat.reduceLeDiff, Nat.reduceLT, Nat.reduceMul, reduceIte, Nat.reducePow, Int.reduceEq, List.toList_toArray]; rfl); (intro h; (try simp only [Bool.and_eq_true, Bool.not_eq_true', Bool.not_eq_eq_eq_not, Bool.not_true] at h); fail); rfl)
         | (apply RO.no; apply wantNo; exact zW; (first | rfl | (focus (simp only [hix, hll, bytesL_len, index_strD, index_bytesD, ← hl1, Bool.and_false, Bool.false_and, Bool.not_true, Bool.not_false, decide_true, decide_false, Bool.or_true, Bool.true_or, not_true_eq_false, not_false_eq_true, Bool.and_true, Bool.true_and]; done))); rfl))); done)))
         | (apply V.regd; (focus ((repeat (first
         | exact RO.nil
         | (apply RO.op; rfl; (simp only [hix, hll, bytesL_len, index_strD, index_bytesD, ← hl1, go_sem, get_nth, fieldAddrA, Nat.reduceDiv, Nat.reduceMod, Nat.reduceAdd, Nat.reduceSub, Nat.reduceEqDiff, Nat.reduceLeDiff, Nat.reduceLT, Nat.reduceMul, reduceIte, Nat.reducePow, Int.reduceEq, List.toList_toArray]; exact zL); rfl)
         | (apply RO.opg; exact zW; (intro h; (try simp only [Bool.and_eq_true, Bool.not_eq_true', Bool.not_eq_eq_eq_not, Bool.not_true] at h); simp only [h, hix, hll, bytesL_len, index_strD, index_bytesD, ← hl1, go_sem, get_nth, fieldAddrA, Nat.reduceDiv, Nat.reduceMod, Nat.reduceAdd, Nat.reduceSub, Nat.reduceEqDiff, Nat.reduceLeDiff, Nat.reduceLT, Nat.reduceMul, reduceIte, Nat.reducePow, Int.reduceEq, List.toList_toArray]; exact zL); rfl)
         | (apply RO.call; exact want0 rfl; (simp only [hix, hll, bytesL_len, index_strD, index_bytesD, ← hl1, go_sem, get_nth, fieldAddrA, Nat.reduceDiv, Nat.reduceMod, Nat.reduceAdd, Nat.reduceSub, Nat.reduceEqDiff, Nat.reduceLeDiff, Nat.reduceLT, Nat.reduceMul, reduceIte, Nat.reducePow, Int.reduceEq, List.toList_toArray]; rfl); fail; rfl)
         | (apply RO.callg; exact zW; (intro h; (try simp only [Bool.and_eq_true, Bool.not_eq_true', Bool.not_eq_eq_eq_not, Bool.not_true] at h); simp only [h, hix, hll, bytesL_len, index_strD, index_bytesD, ← hl1, go_sem, get_nth, fieldAddrA, Nat.reduceDiv, Nat.reduceMod, Nat.reduceAdd, Nat.reduceSub, Nat.reduceEqDiff, Nat.reduceLeDiff, Nat.reduceLT, Nat.reduceMul, reduceIte, Nat.reducePow, Int.reduceEq, List.toList_toArray]; rfl); (intro h; (try simp only [Bool.and_eq_true, Bool.not_eq_true', Bool.not_eq_eq_eq_not, Bool.not_true] at h); fail); rfl)
         | (apply RO.no; apply wantNo; exact zW; (first | rfl | (focus (simp only [hix, hll, bytesL_len, index_strD, index_bytesD, ← hl1, Bool.and_false, Bool.false_and, Bool.not_true, Bool.not_false, decide_true, decide_false, Bool.or_true, Bool.true_or, not_true_eq_false, not_false_eq_true, Bool.and_true, Bool.true_and]; done))); rfl))); done)); exact zK; exact zE)
         | (refine zvf (fun h => ?_) (fun h => ?_) <;> (replace h := zB h) <;> (try (exfalso; first | exact h | omega)))
         | (refine zfd Tryz.results59 ?_; (try dsimp only)))
        · have hi1 : IntKind.i64.wrap ((n : Int) + 1) = ((n + 1 : Nat) : Int) := i64n n (by omega)
          rw [hi1]
          exact LoopF.again (fl.length - (n + 1)) (by rfl) (by omega) ⟨n + 1, _, rfl, rfl, by omega, by omega⟩
        · exact ⟨n, true, rfl, hns, by omega, fun _ => by omega⟩
        · have hi1 : IntKind.i64.wrap ((i : Int) + 1) = ((i + 1 : Nat) : Int) := i64n i (by omega)
          have hm : max (b : Int) (n : Int) = ((max b n : Nat) : Int) := by omega
          rw [hi1, hm]
          exact LoopF.again (9 - (i + 1)) (by rfl) (by omega) ⟨i + 1, max b n, _, rfl, rfl, by omega, by omega, by omega⟩
    · exact ⟨b, false, rfl, hb, hb4, fun h => by cases h⟩
theorem One_call (s : ByteArray) (hs : s.size < 2 ^ 40) : ∃ (n : Nat) (ok : Bool), (∀ ys lo H, CallR EZ ys lo 59 [.v (.string s)] H (.tup [.v (.int .i64 n), .v (.bool ok)]) H ⟨0, 0, 0⟩) ∧ n ≤ s.size ∧ n ≤ 4 ∧ (ok = true → 1 ≤ n) := by
  obtain ⟨x, ⟨n, ok, rfl, h⟩, hc⟩ := WC.pure (E := EZ) (f := 59) (args := [.v (.string s)]) (K := fun x => ∃ (n : Nat) (ok : Bool), x = .tup [.v (.int .i64 n), .v (.bool ok)] ∧ n ≤ s.size ∧ n ≤ 4 ∧ (ok = true → 1 ≤ n)) rfl rfl (by
    obtain ⟨k, r, H', h1, n, ok, rfl, h2⟩ := One_wc 0 .empty s hs
    exact ⟨k, _, H', h1, n, ok, rfl, h2⟩)
  exact ⟨n, ok, hc, h⟩
theorem bin_shl (E : Env) (t : TypeId) (xo yo : Operand) (k k' : IntKind) (a b : Int) (hb : ¬ b < 0) : binOpA E .shl t xo yo (.v (.int k a)) (.v (.int k' b)) = .val (.v (.int k (k.wrap (a * 2 ^ (min b.toNat k.bits))))) := by
  have : det E.P (Op.shift .shl k a k' b) = some (.int k (k.wrap (a * 2 ^ (min b.toNat k.bits)))) := by simp only [Op.shift, if_neg hb]; rfl
  have h2 : det E.P (do eqGuard .shl t xo yo (.int k a) (.int k' b); binOp .shl t (.int k a) (.int k' b)) = det E.P (Op.shift .shl k a k' b) := rfl
  simp only [binOpA, h2, this]; rfl
theorem i32_range (n : Int) : -2147483648 ≤ IntKind.i32.wrap n ∧ IntKind.i32.wrap n ≤ 2147483647 := by
  rw [IntKind.wrap_i32]; omega
theorem value_wc (s : ByteArray) (h1 : 1 ≤ s.size) (h4 : s.size ≤ 4) : WC EZ [] 0 60 [.v (.string s)] .empty fun x _ => ∃ r, x = .v (.int .i32 r) ∧ -2147483648 ≤ r ∧ r ≤ 2147483647 := by
  have h0 : decide ((0 : Int) < (s.size : Int)) = true := decide_eq_true (by omega)
  have hix : primL 0 .empty (indexA EZ 9 (.v (.string s)) (.v (.int .i64 (0 : Int)))) = some (.v (.int .u8 ((s.data.toList.getD 0 0).toNat : Int)), .empty, ⟨0, 0, 0⟩) := index_strD EZ 0 .empty 9 s .i64 0 (by kernel_rfl) h0
  generalize hb0 : ((s.data.toList.getD 0 0).toNat : Int) = b0 at hix
  have hbr : 0 ≤ b0 ∧ b0 ≤ 255 := by rw [← hb0]; exact byte_range _
  obtain ⟨K, hK0, hK⟩ : ∃ K : Int, (0 < K ∧ K ≤ 32) ∧ ∀ t xo yo, 1 < s.size → binOpA EZ .shl t xo yo (.v (.int .i32 1)) (.v (.int .u64 (IntKind.u64.wrap (IntKind.i64.wrap (7 - (s.size : Int)))))) = .val (.v (.int .i32 K)) := by
    have hs : s.size = 1 ∨ s.size = 2 ∨ s.size = 3 ∨ s.size = 4 := by omega
    rcases hs with h | h | h | h
    · exact ⟨1, by decide, fun _ _ _ h' => by omega⟩
    · exact ⟨32, by decide, fun t xo yo _ => by rw [h, bin_shl EZ t xo yo _ _ _ _ (by decide)]; rfl⟩
    · exact ⟨16, by decide, fun t xo yo _ => by rw [h, bin_shl EZ t xo yo _ _ _ _ (by decide)]; rfl⟩
    · exact ⟨8, by decide, fun t xo yo _ => by rw [h, bin_shl EZ t xo yo _ _ _ _ (by decide)]; rfl⟩
  have hKn : ¬ K = 0 := by omega
  refine zvin Tryz.func60 Tryz.ntmps60 ?_
  repeat' (first
   | apply V.sq
   | apply V.bl
   | apply V.sc
   | apply V.skip
   | apply V.label
   | apply V.ret
   | apply V.exit
   | apply SeqQ.normal
   | apply SeqQ.ret
   | apply SeqQ.exit
   | apply BlockQ.normal
   | apply BlockQ.ret
   | apply BlockQ.here
   | refine zbt ?_
   | apply LoopS.ret
   | apply LoopS.exit
   | apply LoopF.ret
   | apply LoopF.exit
   | (apply V.reg; (focus ((repeat (first
   | exact RO.nil
   | (apply RO.op; rfl; (simp only [hix, go_sem, get_nth, fieldAddrA, Nat.reduceDiv, Nat.reduceMod, Nat.reduceAdd, Nat.reduceSub, Nat.reduceEqDiff, Nat.reduceLeDiff, Nat.reduceLT, Nat.reduceMul, reduceIte, Nat.reducePow, Int.reduceEq, List.toList_toArray]; exact zL); rfl)
   | (apply RO.opg; exact zW; (intro h; (try simp only [Bool.and_eq_true, Bool.not_eq_true', Bool.not_eq_eq_eq_not, Bool.not_true] at h); simp only [h, hix, go_sem, get_nth, fieldAddrA, Nat.reduceDiv, Nat.reduceMod, Nat.reduceAdd, Nat.reduceSub, Nat.reduceEqDiff, Nat.reduceLeDiff, Nat.reduceLT, Nat.reduceMul, reduceIte, Nat.reducePow, Int.reduceEq, List.toList_toArray]; exact zL); rfl)
   | (apply RO.call; exact want0 rfl; (simp only [hix, go_sem, get_nth, fieldAddrA, Nat.reduceDiv, Nat.reduceMod, Nat.reduceAdd, Nat.reduceSub, Nat.reduceEqDiff, Nat.reduceLeDiff, Nat.reduceLT, Nat.reduceMul, reduceIte, Nat.reducePow, Int.reduceEq, List.toList_toArray]; rfl); fail; rfl)
   | (apply RO.callg; exact zW; (intro h; (try simp only [Bool.and_eq_true, Bool.not_eq_true', Bool.not_eq_eq_eq_not, Bool.not_true] at h); simp only [h, hix, go_sem, get_nth, fieldAddrA, Nat.reduceDiv, Nat.reduceMod, Nat.reduceAdd, Nat.reduceSub, Nat.reduceEqDiff, Nat.reduceLeDiff, Nat.reduceLT, Nat.reduceMul, reduceIte, Nat.reducePow, Int.reduceEq, List.toList_toArray]; rfl); (intro h; (try simp only [Bool.and_eq_true, Bool.not_eq_true', Bool.not_eq_eq_eq_not, Bool.not_true] at h); fail); rfl)
   | (apply RO.no; apply wantNo; exact zW; (first | rfl | (focus (simp only [hix, Bool.and_false, Bool.false_and, Bool.not_true, Bool.not_false, decide_true, decide_false, Bool.or_true, Bool.true_or, not_true_eq_false, not_false_eq_true, Bool.and_true, Bool.true_and]; done))); rfl))); done)))
   | (apply V.regd; (focus ((repeat (first
   | exact RO.nil
   | (apply RO.op; rfl; (simp only [hix, go_sem, get_nth, fieldAddrA, Nat.reduceDiv, Nat.reduceMod, Nat.reduceAdd, Nat.reduceSub, Nat.reduceEqDiff, Nat.reduceLeDiff, Nat.reduceLT, Nat.reduceMul, reduceIte, Nat.reducePow, Int.reduceEq, List.toList_toArray]; exact zL); rfl)
   | (apply RO.opg; exact zW; (intro h; (try simp only [Bool.and_eq_true, Bool.not_eq_true', Bool.not_eq_eq_eq_not, Bool.not_true] at h); simp only [h, hix, go_sem, get_nth, fieldAddrA, Nat.reduceDiv, Nat.reduceMod, Nat.reduceAdd, Nat.reduceSub, Nat.reduceEqDiff, Nat.reduceLeDiff, Nat.reduceLT, Nat.reduceMul, reduceIte, Nat.reducePow, Int.reduceEq, List.toList_toArray]; exact zL); rfl)
   | (apply RO.call; exact want0 rfl; (simp only [hix, go_sem, get_nth, fieldAddrA, Nat.reduceDiv, Nat.reduceMod, Nat.reduceAdd, Nat.reduceSub, Nat.reduceEqDiff, Nat.reduceLeDiff, Nat.reduceLT, Nat.reduceMul, reduceIte, Nat.reducePow, Int.reduceEq, List.toList_toArray]; rfl); fail; rfl)
   | (apply RO.callg; exact zW; (intro h; (try simp only [Bool.and_eq_true, Bool.not_eq_true', Bool.not_eq_eq_eq_not, Bool.not_true] at h); simp only [h, hix, go_sem, get_nth, fieldAddrA, Nat.reduceDiv, Nat.reduceMod, Nat.reduceAdd, Nat.reduceSub, Nat.reduceEqDiff, Nat.reduceLeDiff, Nat.reduceLT, Nat.reduceMul, reduceIte, Nat.reducePow, Int.reduceEq, List.toList_toArray]; rfl); (intro h; (try simp only [Bool.and_eq_true, Bool.not_eq_true', Bool.not_eq_eq_eq_not, Bool.not_true] at h); fail); rfl)
   | (apply RO.no; apply wantNo; exact zW; (first | rfl | (focus (simp only [hix, Bool.and_false, Bool.false_and, Bool.not_true, Bool.not_false, decide_true, decide_false, Bool.or_true, Bool.true_or, not_true_eq_false, not_false_eq_true, Bool.and_true, Bool.true_and]; done))); rfl))); done)); exact zK; exact zE)
   | (refine zvf (fun h => ?_) (fun h => ?_) <;> (replace h := zB h) <;> (try (exfalso; first | exact h | omega)))
   | (refine zfc Tryz.results60 ?_; (try dsimp only)))
  · exact ⟨_, rfl, i32_range _⟩
  · have hs1 : 1 < s.size := by omega
    have hK' := fun t xo yo => hK t xo yo hs1
    repeat' (first
     | apply V.sq
     | apply V.bl
     | apply V.sc
     | apply V.skip
     | apply V.label
     | apply V.ret
     | apply V.exit
     | apply SeqQ.normal
     | apply SeqQ.ret
     | apply SeqQ.exit
     | apply BlockQ.normal
     | apply BlockQ.ret
     | apply BlockQ.here
     | refine zbt ?_
     | apply LoopS.ret
     | apply LoopS.exit
     | apply LoopF.ret
     | apply LoopF.exit
     | (apply V.reg; (focus ((repeat (first
     | exact RO.nil
     | (apply RO.op; rfl; (simp only [hix, hK', hKn, go_sem, get_nth, fieldAddrA, Nat.reduceDiv, Nat.reduceMod, Nat.reduceAdd, Nat.reduceSub, Nat.reduceEqDiff, Nat.reduceLeDiff, Nat.reduceLT, Nat.reduceMul, reduceIte, Nat.reducePow, Int.reduceEq, List.toList_toArray]; exact zL); rfl)
     | (apply RO.opg; exact zW; (intro h; (try simp only [Bool.and_eq_true, Bool.not_eq_true', Bool.not_eq_eq_eq_not, Bool.not_true] at h); simp only [h, hix, hK', hKn, go_sem, get_nth, fieldAddrA, Nat.reduceDiv, Nat.reduceMod, Nat.reduceAdd, Nat.reduceSub, Nat.reduceEqDiff, Nat.reduceLeDiff, Nat.reduceLT, Nat.reduceMul, reduceIte, Nat.reducePow, Int.reduceEq, List.toList_toArray]; exact zL); rfl)
     | (apply RO.call; exact want0 rfl; (simp only [hix, hK', hKn, go_sem, get_nth, fieldAddrA, Nat.reduceDiv, Nat.reduceMod, Nat.reduceAdd, Nat.reduceSub, Nat.reduceEqDiff, Nat.reduceLeDiff, Nat.reduceLT, Nat.reduceMul, reduceIte, Nat.reducePow, Int.reduceEq, List.toList_toArray]; rfl); fail; rfl)
     | (apply RO.callg; exact zW; (intro h; (try simp only [Bool.and_eq_true, Bool.not_eq_true', Bool.not_eq_eq_eq_not, Bool.not_true] at h); simp only [h, hix, hK', hKn, go_sem, get_nth, fieldAddrA, Nat.reduceDiv, Nat.reduceMod, Nat.reduceAdd, Nat.reduceSub, Nat.reduceEqDiff, Nat.reduceLeDiff, Nat.reduceLT, Nat.reduceMul, reduceIte, Nat.reducePow, Int.reduceEq, List.toList_toArray]; rfl); (intro h; (try simp only [Bool.and_eq_true, Bool.not_eq_true', Bool.not_eq_eq_eq_not, Bool.not_true] at h); fail); rfl)
     | (apply RO.no; apply wantNo; exact zW; (first | rfl | (focus (simp only [hix, hK', hKn, Bool.and_false, Bool.false_and, Bool.not_true, Bool.not_false, decide_true, decide_false, Bool.or_true, Bool.true_or, not_true_eq_false, not_false_eq_true, Bool.and_true, Bool.true_and]; done))); rfl))); done)))
     | (apply V.regd; (focus ((repeat (first
     | exact RO.nil
     | (apply RO.op; rfl; (simp only [hix, hK', hKn, go_sem, get_nth, fieldAddrA, Nat.reduceDiv, Nat.reduceMod, Nat.reduceAdd, Nat.reduceSub, Nat.reduceEqDiff, Nat.reduceLeDiff, Nat.reduceLT, Nat.reduceMul, reduceIte, Nat.reducePow, Int.reduceEq, List.toList_toArray]; exact zL); rfl)
     | (apply RO.opg; exact zW; (intro h; (try simp only [Bool.and_eq_true, Bool.not_eq_true', Bool.not_eq_eq_eq_not, Bool.not_true] at h); simp only [h, hix, hK', hKn, go_sem, get_nth, fieldAddrA, Nat.reduceDiv, Nat.reduceMod, Nat.reduceAdd, Nat.reduceSub, Nat.reduceEqDiff, Nat.reduceLeDiff, Nat.reduceLT, Nat.reduceMul, reduceIte, Nat.reducePow, Int.reduceEq, List.toList_toArray]; exact zL); rfl)
     | (apply RO.call; exact want0 rfl; (simp only [hix, hK', hKn, go_sem, get_nth, fieldAddrA, Nat.reduceDiv, Nat.reduceMod, Nat.reduceAdd, Nat.reduceSub, Nat.reduceEqDiff, Nat.reduceLeDiff, Nat.reduceLT, Nat.reduceMul, reduceIte, Nat.reducePow, Int.reduceEq, List.toList_toArray]; rfl); fail; rfl)
     | (apply RO.callg; exact zW; (intro h; (try simp only [Bool.and_eq_true, Bool.not_eq_true', Bool.not_eq_eq_eq_not, Bool.not_true] at h); simp only [h, hix, hK', hKn, go_sem, get_nth, fieldAddrA, Nat.reduceDiv, Nat.reduceMod, Nat.reduceAdd, Nat.reduceSub, Nat.reduceEqDiff, Nat.reduceLeDiff, Nat.reduceLT, Nat.reduceMul, reduceIte, Nat.reducePow, Int.reduceEq, List.toList_toArray]; rfl); (intro h; (try simp only [Bool.and_eq_true, Bool.not_eq_true', Bool.not_eq_eq_eq_not, Bool.not_true] at h); fail); rfl)
     | (apply RO.no; apply wantNo; exact zW; (first | rfl | (focus (simp only [hix, hK', hKn, Bool.and_false, Bool.false_and, Bool.not_true, Bool.not_false, decide_true, decide_false, Bool.or_true, Bool.true_or, not_true_eq_false, not_false_eq_true, Bool.and_true, Bool.true_and]; done))); rfl))); done)); exact zK; exact zE)
     | (refine zvf (fun h => ?_) (fun h => ?_) <;> (replace h := zB h) <;> (try (exfalso; first | exact h | omega)))
     | (refine zfc Tryz.results60 ?_; (try dsimp only)))
    have hr0 : -2147483648 ≤ (IntKind.i32.wrap b0).tmod K ∧ (IntKind.i32.wrap b0).tmod K ≤ 2147483647 := by
      rw [IntWalk.i32_in b0 (by omega), Int.tmod_eq_emod_of_nonneg hbr.1]
      have h1 := Int.emod_nonneg b0 hKn
      have h2 := Int.emod_lt_of_pos b0 hK0.1
      omega
    apply V.lpF [4, 3, 20, 21, 22, 23, 24, 25, 26, 27, 28, 29, 30, 31, 32, 33] (fun m xs => ∃ (i : Nat) (r : Int) (g : _), xs = .v (.int .i64 i) :: .v (.int .i32 r) :: g ∧ m = s.size - i ∧ 1 ≤ i ∧ i ≤ s.size ∧ -2147483648 ≤ r ∧ r ≤ 2147483647) (s.size - 1)
    focus (intro xs; simp only [putMany, set2, Nat.reduceAdd, Nat.reduceDiv, Nat.reduceMod, nth_zero, nth_succ, List.set_cons_zero, List.set_cons_succ]; rfl)
    focus (first | rfl | simp only [readMany, nth_zero, nth_succ, Nat.reduceDiv, Nat.reduceMod])
    · exact ⟨1, _, _, rfl, rfl, by omega, by omega, hr0⟩
    · rintro m xs ⟨i, r, g, rfl, rfl, hi1, hi, hr⟩
      repeat' (first
       | apply V.sq
       | apply V.bl
       | apply V.sc
       | apply V.skip
       | apply V.label
       | apply V.ret
       | apply V.exit
       | apply SeqQ.normal
       | apply SeqQ.ret
       | apply SeqQ.exit
       | apply BlockQ.normal
       | apply BlockQ.ret
       | apply BlockQ.here
       | refine zbt ?_
       | apply LoopS.ret
       | apply LoopS.exit
       | apply LoopF.ret
       | apply LoopF.exit
       | (apply V.reg; (focus ((repeat (first
       | exact RO.nil
       | (apply RO.op; rfl; (simp only [go_sem, get_nth, fieldAddrA, Nat.reduceDiv, Nat.reduceMod, Nat.reduceAdd, Nat.reduceSub, Nat.reduceEqDiff, Nat.reduceLeDiff, Nat.reduceLT, Nat.reduceMul, reduceIte, Nat.reducePow, Int.reduceEq, List.toList_toArray]; exact zL); rfl)
       | (apply RO.opg; exact zW; (intro h; (try simp only [Bool.and_eq_true, Bool.not_eq_true', Bool.not_eq_eq_eq_not, Bool.not_true] at h); simp only [h, go_sem, get_nth, fieldAddrA, Nat.reduceDiv, Nat.reduceMod, Nat.reduceAdd, Nat.reduceSub, Nat.reduceEqDiff, Nat.reduceLeDiff, Nat.reduceLT, Nat.reduceMul, reduceIte, Nat.reducePow, Int.reduceEq, List.toList_toArray]; exact zL); rfl)
       | (apply RO.call; exact want0 rfl; (simp only [go_sem, get_nth, fieldAddrA, Nat.reduceDiv, Nat.reduceMod, Nat.reduceAdd, Nat.reduceSub, Nat.reduceEqDiff, Nat.reduceLeDiff, Nat.reduceLT, Nat.reduceMul, reduceIte, Nat.reducePow, Int.reduceEq, List.toList_toArray]; rfl); fail; rfl)
       | (apply RO.callg; exact zW; (intro h; (try simp only [Bool.and_eq_true, Bool.not_eq_true', Bool.not_eq_eq_eq_not, Bool.not_true] at h); simp only [h, go_sem, get_nth, fieldAddrA, Nat.reduceDiv, Nat.reduceMod, Nat.reduceAdd, Nat.reduceSub, Nat.reduceEqDiff, Nat.reduceLeDiff, Nat.reduceLT, Nat.reduceMul, reduceIte, Nat.reducePow, Int.reduceEq, List.toList_toArray]; rfl); (intro h; (try simp only [Bool.and_eq_true, Bool.not_eq_true', Bool.not_eq_eq_eq_not, Bool.not_true] at h); fail); rfl)
       | (apply RO.no; apply wantNo; exact zW; (first | rfl | (focus (simp only [Bool.and_false, Bool.false_and, Bool.not_true, Bool.not_false, decide_true, decide_false, Bool.or_true, Bool.true_or, not_true_eq_false, not_false_eq_true, Bool.and_true, Bool.true_and]; done))); rfl))); done)))
       | (apply V.regd; (focus ((repeat (first
       | exact RO.nil
       | (apply RO.op; rfl; (simp only [go_sem, get_nth, fieldAddrA, Nat.reduceDiv, Nat.reduceMod, Nat.reduceAdd, Nat.reduceSub, Nat.reduceEqDiff, Nat.reduceLeDiff, Nat.reduceLT, Nat.reduceMul, reduceIte, Nat.reducePow, Int.reduceEq, List.toList_toArray]; exact zL); rfl)
       | (apply RO.opg; exact zW; (intro h; (try simp only [Bool.and_eq_true, Bool.not_eq_true', Bool.not_eq_eq_eq_not, Bool.not_true] at h); simp only [h, go_sem, get_nth, fieldAddrA, Nat.reduceDiv, Nat.reduceMod, Nat.reduceAdd, Nat.reduceSub, Nat.reduceEqDiff, Nat.reduceLeDiff, Nat.reduceLT, Nat.reduceMul, reduceIte, Nat.reducePow, Int.reduceEq, List.toList_toArray]; exact zL); rfl)
       | (apply RO.call; exact want0 rfl; (simp only [go_sem, get_nth, fieldAddrA, Nat.reduceDiv, Nat.reduceMod, Nat.reduceAdd, Nat.reduceSub, Nat.reduceEqDiff, Nat.reduceLeDiff, Nat.reduceLT, Nat.reduceMul, reduceIte, Nat.reducePow, Int.reduceEq, List.toList_toArray]; rfl); fail; rfl)
       | (apply RO.callg; exact zW; (intro h; (try simp only [Bool.and_eq_true, Bool.not_eq_true', Bool.not_eq_eq_eq_not, Bool.not_true] at h); simp only [h, go_sem, get_nth, fieldAddrA, Nat.reduceDiv, Nat.reduceMod, Nat.reduceAdd, Nat.reduceSub, Nat.reduceEqDiff, Nat.reduceLeDiff, Nat.reduceLT, Nat.reduceMul, reduceIte, Nat.reducePow, Int.reduceEq, List.toList_toArray]; rfl); (intro h; (try simp only [Bool.and_eq_true, Bool.not_eq_true', Bool.not_eq_eq_eq_not, Bool.not_true] at h); fail); rfl)
       | (apply RO.no; apply wantNo; exact zW; (first | rfl | (focus (simp only [Bool.and_false, Bool.false_and, Bool.not_true, Bool.not_false, decide_true, decide_false, Bool.or_true, Bool.true_or, not_true_eq_false, not_false_eq_true, Bool.and_true, Bool.true_and]; done))); rfl))); done)); exact zK; exact zE)
       | (refine zvf (fun h => ?_) (fun h => ?_) <;> (replace h := zB h) <;> (try (exfalso; first | exact h | omega)))
       | (refine zfc Tryz.results60 ?_; (try dsimp only)))
      · have hd : decide ((i : Int) < (s.size : Int)) = true := decide_eq_true (by omega)
        have hix2 := index_strD EZ 0 .empty 9 s .i64 i (by kernel_rfl) hd
        have hin := i64n i (by omega)
        repeat' (first
         | apply V.sq
         | apply V.bl
         | apply V.sc
         | apply V.skip
         | apply V.label
         | apply V.ret
         | apply V.exit
         | apply SeqQ.normal
         | apply SeqQ.ret
         | apply SeqQ.exit
         | apply BlockQ.normal
         | apply BlockQ.ret
         | apply BlockQ.here
         | refine zbt ?_
         | apply LoopS.ret
         | apply LoopS.exit
         | apply LoopF.ret
         | apply LoopF.exit
         | (apply V.reg; (focus ((repeat (first
         | exact RO.nil
         | (apply RO.op; rfl; (simp only [hix2, hin, go_sem, get_nth, fieldAddrA, Nat.reduceDiv, Nat.reduceMod, Nat.reduceAdd, Nat.reduceSub, Nat.reduceEqDiff, Nat.reduceLeDiff, Nat.reduceLT, Nat.reduceMul, reduceIte, Nat.reducePow, Int.reduceEq, List.toList_toArray]; exact zL); rfl)
         | (apply RO.opg; exact zW; (intro h; (try simp only [Bool.and_eq_true, Bool.not_eq_true', Bool.not_eq_eq_eq_not, Bool.not_true] at h); simp only [h, hix2, hin, go_sem, get_nth, fieldAddrA, Nat.reduceDiv, Nat.reduceMod, Nat.reduceAdd, Nat.reduceSub, Nat.reduceEqDiff, Nat.reduceLeDiff, Nat.reduceLT, Nat.reduceMul, reduceIte, Nat.reducePow, Int.reduceEq, List.toList_toArray]; exact zL); rfl)
         | (apply RO.call; exact want0 rfl; (simp only [hix2, hin, go_sem, get_nth, fieldAddrA, Nat.reduceDiv, Nat.reduceMod, Nat.reduceAdd, Nat.reduceSub, Nat.reduceEqDiff, Nat.reduceLeDiff, Nat.reduceLT, Nat.reduceMul, reduceIte, Nat.reducePow, Int.reduceEq, List.toList_toArray]; rfl); fail; rfl)
         | (apply RO.callg; exact zW; (intro h; (try simp only [Bool.and_eq_true, Bool.not_eq_true', Bool.not_eq_eq_eq_not, Bool.not_true] at h); simp only [h, hix2, hin, go_sem, get_nth, fieldAddrA, Nat.reduceDiv, Nat.reduceMod, Nat.reduceAdd, Nat.reduceSub, Nat.reduceEqDiff, Nat.reduceLeDiff, Nat.reduceLT, Nat.reduceMul, reduceIte, Nat.reducePow, Int.reduceEq, List.toList_toArray]; rfl); (intro h; (try simp only [Bool.and_eq_true, Bool.not_eq_true', Bool.not_eq_eq_eq_not, Bool.not_true] at h); fail); rfl)
         | (apply RO.no; apply wantNo; exact zW; (first | rfl | (focus (simp only [hix2, hin, Bool.and_false, Bool.false_and, Bool.not_true, Bool.not_false, decide_true, decide_false, Bool.or_true, Bool.true_or, not_true_eq_false, not_false_eq_true, Bool.and_true, Bool.true_and]; done))); rfl))); done)))
         | (apply V.regd; (focus ((repeat (first
         | exact RO.nil
         | (apply RO.op; rfl; (simp only [hix2, hin, go_sem, get_nth, fieldAddrA, Nat.reduceDiv, Nat.reduceMod, Nat.reduceAdd, Nat.reduceSub, Nat.reduceEqDiff, Nat.reduceLeDiff, Nat.reduceLT, Nat.reduceMul, reduceIte, Nat.reducePow, Int.reduceEq, List.toList_toArray]; exact zL); rfl)
         | (apply RO.opg; exact zW; (intro h; (try simp only [Bool.and_eq_true, Bool.not_eq_true', Bool.not_eq_eq_eq_not, Bool.not_true] at h); simp only [h, hix2, hin, go_sem, get_nth, fieldAddrA, Nat.reduceDiv, Nat.reduceMod, Nat.reduceAdd, Nat.reduceSub, Nat.reduceEqDiff, Nat.reduceLeDiff, Nat.reduceLT, Nat.reduceMul, reduceIte, Nat.reducePow, Int.reduceEq, List.toList_toArray]; exact zL); rfl)
         | (apply RO.call; exact want0 rfl; (simp only [hix2, hin, go_sem, get_nth, fieldAddrA, Nat.reduceDiv, Nat.reduceMod, Nat.reduceAdd, Nat.reduceSub, Nat.reduceEqDiff, Nat.reduceLeDiff, Nat.reduceLT, Nat.reduceMul, reduceIte, Nat.reducePow, Int.reduceEq, List.toList_toArray]; rfl); fail; rfl)
         | (apply RO.callg; exact zW; (intro h; (try simp only [Bool.and_eq_true, Bool.not_eq_true', Bool.not_eq_eq_eq_not, Bool.not_true] at h); simp only [h, hix2, hin, go_sem, get_nth, fieldAddrA, Nat.reduceDiv, Nat.reduceMod, Nat.reduceAdd, Nat.reduceSub, Nat.reduceEqDiff, Nat.reduceLeDiff, Nat.reduceLT, Nat.reduceMul, reduceIte, Nat.reducePow, Int.reduceEq, List.toList_toArray]; rfl); (intro h; (try simp only [Bool.and_eq_true, Bool.not_eq_true', Bool.not_eq_eq_eq_not, Bool.not_true] at h); fail); rfl)
         | (apply RO.no; apply wantNo; exact zW; (first | rfl | (focus (simp only [hix2, hin, Bool.and_false, Bool.false_and, Bool.not_true, Bool.not_false, decide_true, decide_false, Bool.or_true, Bool.true_or, not_true_eq_false, not_false_eq_true, Bool.and_true, Bool.true_and]; done))); rfl))); done)); exact zK; exact zE)
         | (refine zvf (fun h => ?_) (fun h => ?_) <;> (replace h := zB h) <;> (try (exfalso; first | exact h | omega)))
         | (refine zfc Tryz.results60 ?_; (try dsimp only)))
        exact LoopF.again (s.size - (i + 1)) (by rfl) (by omega) ⟨i + 1, _, _, rfl, rfl, by omega, by omega, i32_range _⟩
      · exact ⟨r, rfl, hr⟩
theorem value_call (s : ByteArray) (h1 : 1 ≤ s.size) (h4 : s.size ≤ 4) : ∃ r : Int, (∀ ys lo H, CallR EZ ys lo 60 [.v (.string s)] H (.v (.int .i32 r)) H ⟨0, 0, 0⟩) ∧ -2147483648 ≤ r ∧ r ≤ 2147483647 := by
  obtain ⟨x, ⟨r, rfl, h⟩, hc⟩ := WC.pure (E := EZ) (f := 60) (args := [.v (.string s)]) (K := fun x => ∃ r, x = .v (.int .i32 r) ∧ -2147483648 ≤ r ∧ r ≤ 2147483647) rfl rfl (by
    obtain ⟨k, r, H', h1, r', rfl, h2⟩ := value_wc s h1 h4
    exact ⟨k, _, H', h1, r', rfl, h2⟩)
  exact ⟨r, hc, h⟩
theorem All_wc (s0 : ByteArray) (hs : s0.size < 2 ^ 40) : WC EZ [] 0 20 [.v (.string s0)] .empty fun x H => ∃ (A : AV) (l : List Int) (n : Nat), frzR H 0 x = .tup [A, .v (.int .i64 n)] ∧ Sl 1 A (runes l) ∧ l.length ≤ s0.size ∧ ∀ c ∈ l, -2147483648 ≤ c ∧ c ≤ 2147483647 := by
  refine zvin Tryz.func20 Tryz.ntmps20 ?_
  repeat' (first
   | apply V.sq
   | apply V.bl
   | apply V.sc
   | apply V.skip
   | apply V.label
   | apply V.ret
   | apply V.exit
   | apply SeqQ.normal
   | apply SeqQ.ret
   | apply SeqQ.exit
   | apply BlockQ.normal
   | apply BlockQ.ret
   | apply BlockQ.here
   | refine zbt ?_
   | apply LoopS.ret
   | apply LoopS.exit
   | apply LoopF.ret
   | apply LoopF.exit
   | (apply V.reg; (focus ((repeat (first
   | exact RO.nil
   | (apply RO.op; rfl; (simp only [go_sem, get_nth, fieldAddrA, Nat.reduceDiv, Nat.reduceMod, Nat.reduceAdd, Nat.reduceSub, Nat.reduceEqDiff, Nat.reduceLeDiff, Nat.reduceLT, Nat.reduceMul, reduceIte, Nat.reducePow, Int.reduceEq, List.toList_toArray]; exact zL); rfl)
   | (apply RO.opg; exact zW; (intro h; (try simp only [Bool.and_eq_true, Bool.not_eq_true', Bool.not_eq_eq_eq_not, Bool.not_true] at h); simp only [h, go_sem, get_nth, fieldAddrA, Nat.reduceDiv, Nat.reduceMod, Nat.reduceAdd, Nat.reduceSub, Nat.reduceEqDiff, Nat.reduceLeDiff, Nat.reduceLT, Nat.reduceMul, reduceIte, Nat.reducePow, Int.reduceEq, List.toList_toArray]; exact zL); rfl)
   | (apply RO.call; exact want0 rfl; (simp only [go_sem, get_nth, fieldAddrA, Nat.reduceDiv, Nat.reduceMod, Nat.reduceAdd, Nat.reduceSub, Nat.reduceEqDiff, Nat.reduceLeDiff, Nat.reduceLT, Nat.reduceMul, reduceIte, Nat.reducePow, Int.reduceEq, List.toList_toArray]; rfl); fail; rfl)
   | (apply RO.callg; exact zW; (intro h; (try simp only [Bool.and_eq_true, Bool.not_eq_true', Bool.not_eq_eq_eq_not, Bool.not_true] at h); simp only [h, go_sem, get_nth, fieldAddrA, Nat.reduceDiv, Nat.reduceMod, Nat.reduceAdd, Nat.reduceSub, Nat.reduceEqDiff, Nat.reduceLeDiff, Nat.reduceLT, Nat.reduceMul, reduceIte, Nat.reducePow, Int.reduceEq, List.toList_toArray]; rfl); (intro h; (try simp only [Bool.and_eq_true, Bool.not_eq_true', Bool.not_eq_eq_eq_not, Bool.not_true] at h); fail); rfl)
   | (apply RO.no; apply wantNo; exact zW; (first | rfl | (focus (simp only [Bool.and_false, Bool.false_and, Bool.not_true, Bool.not_false, decide_true, decide_false, Bool.or_true, Bool.true_or, not_true_eq_false, not_false_eq_true, Bool.and_true, Bool.true_and]; done))); rfl))); done)))
   | (apply V.regd; (focus ((repeat (first
   | exact RO.nil
   | (apply RO.op; rfl; (simp only [go_sem, get_nth, fieldAddrA, Nat.reduceDiv, Nat.reduceMod, Nat.reduceAdd, Nat.reduceSub, Nat.reduceEqDiff, Nat.reduceLeDiff, Nat.reduceLT, Nat.reduceMul, reduceIte, Nat.reducePow, Int.reduceEq, List.toList_toArray]; exact zL); rfl)
   | (apply RO.opg; exact zW; (intro h; (try simp only [Bool.and_eq_true, Bool.not_eq_true', Bool.not_eq_eq_eq_not, Bool.not_true] at h); simp only [h, go_sem, get_nth, fieldAddrA, Nat.reduceDiv, Nat.reduceMod, Nat.reduceAdd, Nat.reduceSub, Nat.reduceEqDiff, Nat.reduceLeDiff, Nat.reduceLT, Nat.reduceMul, reduceIte, Nat.reducePow, Int.reduceEq, List.toList_toArray]; exact zL); rfl)
   | (apply RO.call; exact want0 rfl; (simp only [go_sem, get_nth, fieldAddrA, Nat.reduceDiv, Nat.reduceMod, Nat.reduceAdd, Nat.reduceSub, Nat.reduceEqDiff, Nat.reduceLeDiff, Nat.reduceLT, Nat.reduceMul, reduceIte, Nat.reducePow, Int.reduceEq, List.toList_toArray]; rfl); fail; rfl)
   | (apply RO.callg; exact zW; (intro h; (try simp only [Bool.and_eq_true, Bool.not_eq_true', Bool.not_eq_eq_eq_not, Bool.not_true] at h); simp only [h, go_sem, get_nth, fieldAddrA, Nat.reduceDiv, Nat.reduceMod, Nat.reduceAdd, Nat.reduceSub, Nat.reduceEqDiff, Nat.reduceLeDiff, Nat.reduceLT, Nat.reduceMul, reduceIte, Nat.reducePow, Int.reduceEq, List.toList_toArray]; rfl); (intro h; (try simp only [Bool.and_eq_true, Bool.not_eq_true', Bool.not_eq_eq_eq_not, Bool.not_true] at h); fail); rfl)
   | (apply RO.no; apply wantNo; exact zW; (first | rfl | (focus (simp only [Bool.and_false, Bool.false_and, Bool.not_true, Bool.not_false, decide_true, decide_false, Bool.or_true, Bool.true_or, not_true_eq_false, not_false_eq_true, Bool.and_true, Bool.true_and]; done))); rfl))); done)); exact zK; exact zE)
   | (refine zvf (fun h => ?_) (fun h => ?_) <;> (replace h := zB h) <;> (try (exfalso; first | exact h | omega)))
   | (refine zfd Tryz.results20 ?_; (try dsimp only)))
  apply V.lpS [0, 4, 2, 3, 5, 6, 7, 8, 9, 10, 11, 12, 13, 14, 15, 16, 17, 18, 19, 20, 21, 22, 23, 24, 25, 26, 27, 28, 29, 30, 31, 32, 33, 34, 35, 36, 37, 38] (fun m xs H => ∃ (s : ByteArray) (A : AV) (l : List Int) (g : _), xs = .v (.string s) :: A :: g ∧ m = s.size ∧ l.length + s.size ≤ s0.size ∧ OwnS H (fun k => k < H.next) 21 1 A (runes l) ∧ ∀ c ∈ l, -2147483648 ≤ c ∧ c ≤ 2147483647) s0.size
  focus (intro xs; simp only [putMany, set2, Nat.reduceAdd, Nat.reduceDiv, Nat.reduceMod, nth_zero, nth_succ, List.set_cons_zero, List.set_cons_succ]; rfl)
  focus (first | rfl | simp only [readMany, nth_zero, nth_succ, Nat.reduceDiv, Nat.reduceMod])
  · exact ⟨s0, nilA, [], _, rfl, rfl, by simp, OwnS.nil, by simp⟩
  · rintro m xs H ⟨s, A, l, g, rfl, rfl, hl, hA, hr⟩
    obtain ⟨n, ok, hone, hn, hn4, hok⟩ := One_call s (by omega)
    have hret : ∀ k : Int, ∃ A', frzR H 0 (.tup [A, .v (.int .i64 k)]) = .tup [A', .v (.int .i64 k)] ∧ Sl 1 A' (runes l) := fun k => by
      obtain ⟨y, h1, h2⟩ := frz_own hA Nat.one_pos (flat_runes l)
      exact ⟨y, by rw [← h1]; rfl, h2⟩
    obtain ⟨R, G, tr, hap⟩ := append_lits EZ 0 (t := 22) (bytes := 4) (by kernel_rfl) hA (fun k hk => hk) (fun k _ => Nat.zero_le _) (by rw [runes_len]; show (l.length + 8) * 4 ≤ 140737488355328; omega)
    have happ := fun new k a b c => (hap new k a b c).1
    have hgo : ∀ (c : Int) (s' : ByteArray), s'.size < s.size → -2147483648 ≤ c ∧ c ≤ 2147483647 → (l ++ [c]).length + s'.size ≤ s0.size ∧ OwnS (G [[.v (.int .i32 c)]] 1) (fun k => k < (G [[.v (.int .i32 c)]] 1).next) 21 1 (R 1) (runes (l ++ [c])) ∧ ∀ c' ∈ l ++ [c], -2147483648 ≤ c' ∧ c' ≤ 2147483647 := fun c s' hs' hc => by
      obtain ⟨_, h2, h3, _⟩ := hap [[.v (.int .i32 c)]] 1 rfl (by decide) (by decide)
      refine ⟨by rw [List.length_append, List.length_singleton]; omega, ?_, fun c' hc' => ?_⟩
      · rw [runes_append]
        exact h3.mono fun k hk => hk.elim (fun h => Nat.lt_of_lt_of_le h h2.next) (fun h => h.2)
      · rcases List.mem_append.1 hc' with h | h
        · exact hr c' h
        · rw [List.mem_singleton.1 h]; exact hc
    repeat' (first
     | apply V.sq
     | apply V.bl
     | apply V.sc
     | apply V.skip
     | apply V.label
     | apply V.ret
     | apply V.exit
     | apply SeqQ.normal
     | apply SeqQ.ret
     | apply SeqQ.exit
     | apply BlockQ.normal
     | apply BlockQ.ret
     | apply BlockQ.here
     | refine zbt ?_
     | apply LoopS.ret
     | apply LoopS.exit
     | apply LoopF.ret
     | apply LoopF.exit
     | (apply V.reg; (focus ((repeat (first
     | exact RO.nil
     | (apply RO.op; rfl; (simp only [go_sem, get_nth, fieldAddrA, Nat.reduceDiv, Nat.reduceMod, Nat.reduceAdd, Nat.reduceSub, Nat.reduceEqDiff, Nat.reduceLeDiff, Nat.reduceLT, Nat.reduceMul, reduceIte, Nat.reducePow, Int.reduceEq, List.toList_toArray]; exact zL); rfl)
     | (apply RO.opg; exact zW; (intro h; (try simp only [Bool.and_eq_true, Bool.not_eq_true', Bool.not_eq_eq_eq_not, Bool.not_true] at h); simp only [h, go_sem, get_nth, fieldAddrA, Nat.reduceDiv, Nat.reduceMod, Nat.reduceAdd, Nat.reduceSub, Nat.reduceEqDiff, Nat.reduceLeDiff, Nat.reduceLT, Nat.reduceMul, reduceIte, Nat.reducePow, Int.reduceEq, List.toList_toArray]; exact zL); rfl)
     | (apply RO.call; exact want0 rfl; (simp only [go_sem, get_nth, fieldAddrA, Nat.reduceDiv, Nat.reduceMod, Nat.reduceAdd, Nat.reduceSub, Nat.reduceEqDiff, Nat.reduceLeDiff, Nat.reduceLT, Nat.reduceMul, reduceIte, Nat.reducePow, Int.reduceEq, List.toList_toArray]; rfl); (first | (apply hone <;> (exact zD))); rfl)
     | (apply RO.callg; exact zW; (intro h; (try simp only [Bool.and_eq_true, Bool.not_eq_true', Bool.not_eq_eq_eq_not, Bool.not_true] at h); simp only [h, go_sem, get_nth, fieldAddrA, Nat.reduceDiv, Nat.reduceMod, Nat.reduceAdd, Nat.reduceSub, Nat.reduceEqDiff, Nat.reduceLeDiff, Nat.reduceLT, Nat.reduceMul, reduceIte, Nat.reducePow, Int.reduceEq, List.toList_toArray]; rfl); (intro h; (try simp only [Bool.and_eq_true, Bool.not_eq_true', Bool.not_eq_eq_eq_not, Bool.not_true] at h); (first | (apply hone <;> (exact zD)))); rfl)
     | (apply RO.no; apply wantNo; exact zW; (first | rfl | (focus (simp only [Bool.and_false, Bool.false_and, Bool.not_true, Bool.not_false, decide_true, decide_false, Bool.or_true, Bool.true_or, not_true_eq_false, not_false_eq_true, Bool.and_true, Bool.true_and]; done))); rfl))); done)))
     | (apply V.regd; (focus ((repeat (first
     | exact RO.nil
     | (apply RO.op; rfl; (simp only [go_sem, get_nth, fieldAddrA, Nat.reduceDiv, Nat.reduceMod, Nat.reduceAdd, Nat.reduceSub, Nat.reduceEqDiff, Nat.reduceLeDiff, Nat.reduceLT, Nat.reduceMul, reduceIte, Nat.reducePow, Int.reduceEq, List.toList_toArray]; exact zL); rfl)
     | (apply RO.opg; exact zW; (intro h; (try simp only [Bool.and_eq_true, Bool.not_eq_true', Bool.not_eq_eq_eq_not, Bool.not_true] at h); simp only [h, go_sem, get_nth, fieldAddrA, Nat.reduceDiv, Nat.reduceMod, Nat.reduceAdd, Nat.reduceSub, Nat.reduceEqDiff, Nat.reduceLeDiff, Nat.reduceLT, Nat.reduceMul, reduceIte, Nat.reducePow, Int.reduceEq, List.toList_toArray]; exact zL); rfl)
     | (apply RO.call; exact want0 rfl; (simp only [go_sem, get_nth, fieldAddrA, Nat.reduceDiv, Nat.reduceMod, Nat.reduceAdd, Nat.reduceSub, Nat.reduceEqDiff, Nat.reduceLeDiff, Nat.reduceLT, Nat.reduceMul, reduceIte, Nat.reducePow, Int.reduceEq, List.toList_toArray]; rfl); (first | (apply hone <;> (exact zD))); rfl)
     | (apply RO.callg; exact zW; (intro h; (try simp only [Bool.and_eq_true, Bool.not_eq_true', Bool.not_eq_eq_eq_not, Bool.not_true] at h); simp only [h, go_sem, get_nth, fieldAddrA, Nat.reduceDiv, Nat.reduceMod, Nat.reduceAdd, Nat.reduceSub, Nat.reduceEqDiff, Nat.reduceLeDiff, Nat.reduceLT, Nat.reduceMul, reduceIte, Nat.reducePow, Int.reduceEq, List.toList_toArray]; rfl); (intro h; (try simp only [Bool.and_eq_true, Bool.not_eq_true', Bool.not_eq_eq_eq_not, Bool.not_true] at h); (first | (apply hone <;> (exact zD)))); rfl)
     | (apply RO.no; apply wantNo; exact zW; (first | rfl | (focus (simp only [Bool.and_false, Bool.false_and, Bool.not_true, Bool.not_false, decide_true, decide_false, Bool.or_true, Bool.true_or, not_true_eq_false, not_false_eq_true, Bool.and_true, Bool.true_and]; done))); rfl))); done)); exact zK; exact zE)
     | (refine zvf (fun h => ?_) (fun h => ?_) <;> (replace h := zB h) <;> (try (exfalso; first | exact h | omega)))
     | (refine zfd Tryz.results20 ?_; (try dsimp only)))
    · have hk1 := hok (by assumption)
      have hs1 := slice_str EZ 9 s none (some (.v (.int .i64 (n : Int)))) (l := 0) (r := n) (by kernel_rfl) rfl (by rw [bound_some _ _ _ (by omega), Int.toNat_natCast]) (Nat.zero_le _) hn
      have hs2 := slice_str EZ 9 s (some (.v (.int .i64 (n : Int)))) none (l := n) (r := s.size) (by kernel_rfl) (by rw [bound_some _ _ _ (by omega), Int.toNat_natCast]) rfl hn (Nat.le_refl _)
      have e1 := extract_size s 0 n (Nat.zero_le _) hn
      have e2 := extract_size s n s.size hn (Nat.le_refl _)
      obtain ⟨r, hv, hvr⟩ := value_call (s.extract 0 n) (by omega) (by omega)
      repeat' (first
       | apply V.sq
       | apply V.bl
       | apply V.sc
       | apply V.skip
       | apply V.label
       | apply V.ret
       | apply V.exit
       | apply SeqQ.normal
       | apply SeqQ.ret
       | apply SeqQ.exit
       | apply BlockQ.normal
       | apply BlockQ.ret
       | apply BlockQ.here
       | refine zbt ?_
       | apply LoopS.ret
       | apply LoopS.exit
       | apply LoopF.ret
       | apply LoopF.exit
       | (apply V.reg; (focus ((repeat (first
       | exact RO.nil
       | (apply RO.op; rfl; (simp only [hs1, hs2, happ, go_sem, get_nth, fieldAddrA, Nat.reduceDiv, Nat.reduceMod, Nat.reduceAdd, Nat.reduceSub, Nat.reduceEqDiff, Nat.reduceLeDiff, Nat.reduceLT, Nat.reduceMul, reduceIte, Nat.reducePow, Int.reduceEq, List.toList_toArray]; exact zL); rfl)
       | (apply RO.opg; exact zW; (intro h; (try simp only [Bool.and_eq_true, Bool.not_eq_true', Bool.not_eq_eq_eq_not, Bool.not_true] at h); simp only [h, hs1, hs2, happ, go_sem, get_nth, fieldAddrA, Nat.reduceDiv, Nat.reduceMod, Nat.reduceAdd, Nat.reduceSub, Nat.reduceEqDiff, Nat.reduceLeDiff, Nat.reduceLT, Nat.reduceMul, reduceIte, Nat.reducePow, Int.reduceEq, List.toList_toArray]; exact zL); rfl)
       | (apply RO.call; exact want0 rfl; (simp only [hs1, hs2, happ, go_sem, get_nth, fieldAddrA, Nat.reduceDiv, Nat.reduceMod, Nat.reduceAdd, Nat.reduceSub, Nat.reduceEqDiff, Nat.reduceLeDiff, Nat.reduceLT, Nat.reduceMul, reduceIte, Nat.reducePow, Int.reduceEq, List.toList_toArray]; rfl); (first | (apply hv <;> (exact zD))); rfl)
       | (apply RO.callg; exact zW; (intro h; (try simp only [Bool.and_eq_true, Bool.not_eq_true', Bool.not_eq_eq_eq_not, Bool.not_true] at h); simp only [h, hs1, hs2, happ, go_sem, get_nth, fieldAddrA, Nat.reduceDiv, Nat.reduceMod, Nat.reduceAdd, Nat.reduceSub, Nat.reduceEqDiff, Nat.reduceLeDiff, Nat.reduceLT, Nat.reduceMul, reduceIte, Nat.reducePow, Int.reduceEq, List.toList_toArray]; rfl); (intro h; (try simp only [Bool.and_eq_true, Bool.not_eq_true', Bool.not_eq_eq_eq_not, Bool.not_true] at h); (first | (apply hv <;> (exact zD)))); rfl)
       | (apply RO.no; apply wantNo; exact zW; (first | rfl | (focus (simp only [hs1, hs2, happ, Bool.and_false, Bool.false_and, Bool.not_true, Bool.not_false, decide_true, decide_false, Bool.or_true, Bool.true_or, not_true_eq_false, not_false_eq_true, Bool.and_true, Bool.true_and]; done))); rfl))); done)))
       | (apply V.regd; (focus ((repeat (first
       | exact RO.nil
       | (apply RO.op; rfl; (simp only [hs1, hs2, happ, go_sem, get_nth, fieldAddrA, Nat.reduceDiv, Nat.reduceMod, Nat.reduceAdd, Nat.reduceSub, Nat.reduceEqDiff, Nat.reduceLeDiff, Nat.reduceLT, Nat.reduceMul, reduceIte, Nat.reducePow, Int.reduceEq, List.toList_toArray]; exact zL); rfl)
       | (apply RO.opg; exact zW; (intro h; (try simp only [Bool.and_eq_true, Bool.not_eq_true', Bool.not_eq_eq_eq_not, Bool.not_true] at h); simp only [h, hs1, hs2, happ, go_sem, get_nth, fieldAddrA, Nat.reduceDiv, Nat.reduceMod, Nat.reduceAdd, Nat.reduceSub, Nat.reduceEqDiff, Nat.reduceLeDiff, Nat.reduceLT, Nat.reduceMul, reduceIte, Nat.reducePow, Int.reduceEq, List.toList_toArray]; exact zL); rfl)
       | (apply RO.call; exact want0 rfl; (simp only [hs1, hs2, happ, go_sem, get_nth, fieldAddrA, Nat.reduceDiv, Nat.reduceMod, Nat.reduceAdd, Nat.reduceSub, Nat.reduceEqDiff, Nat.reduceLeDiff, Nat.reduceLT, Nat.reduceMul, reduceIte, Nat.reducePow, Int.reduceEq, List.toList_toArray]; rfl); (first | (apply hv <;> (exact zD))); rfl)
       | (apply RO.callg; exact zW; (intro h; (try simp only [Bool.and_eq_true, Bool.not_eq_true', Bool.not_eq_eq_eq_not, Bool.not_true] at h); simp only [h, hs1, hs2, happ, go_sem, get_nth, fieldAddrA, Nat.reduceDiv, Nat.reduceMod, Nat.reduceAdd, Nat.reduceSub, Nat.reduceEqDiff, Nat.reduceLeDiff, Nat.reduceLT, Nat.reduceMul, reduceIte, Nat.reducePow, Int.reduceEq, List.toList_toArray]; rfl); (intro h; (try simp only [Bool.and_eq_true, Bool.not_eq_true', Bool.not_eq_eq_eq_not, Bool.not_true] at h); (first | (apply hv <;> (exact zD)))); rfl)
       | (apply RO.no; apply wantNo; exact zW; (first | rfl | (focus (simp only [hs1, hs2, happ, Bool.and_false, Bool.false_and, Bool.not_true, Bool.not_false, decide_true, decide_false, Bool.or_true, Bool.true_or, not_true_eq_false, not_false_eq_true, Bool.and_true, Bool.true_and]; done))); rfl))); done)); exact zK; exact zE)
       | (refine zvf (fun h => ?_) (fun h => ?_) <;> (replace h := zB h) <;> (try (exfalso; first | exact h | omega)))
       | (refine zfd Tryz.results20 ?_; (try dsimp only)))
      obtain ⟨g1, g2, g3⟩ := hgo r (s.extract n s.size) (by omega) hvr
      exact LoopS.again ((s.extract n s.size).size) (by rfl) (by omega) ⟨_, _, _, _, rfl, rfl, g1, g2, g3⟩
    · obtain ⟨A', h1, h2⟩ := hret n
      exact ⟨A', l, n, h1, h2, by omega, hr⟩
    · have hmx : max (1 : Int) (n : Int) = ((max 1 n : Nat) : Int) := by omega
      have hs0 : (0 : Int) < (s.size : Int) := by assumption
      have hle : max 1 n ≤ s.size := by omega
      have hs2 := slice_str EZ 9 s (some (.v (.int .i64 ((max 1 n : Nat) : Int)))) none (l := max 1 n) (r := s.size) (by kernel_rfl) (by rw [bound_some _ _ _ (by omega), Int.toNat_natCast]) rfl hle (Nat.le_refl _)
      have e2 := extract_size s (max 1 n) s.size hle (Nat.le_refl _)
      repeat' (first
       | apply V.sq
       | apply V.bl
       | apply V.sc
       | apply V.skip
       | apply V.label
       | apply V.ret
       | apply V.exit
       | apply SeqQ.normal
       | apply SeqQ.ret
       | apply SeqQ.exit
       | apply BlockQ.normal
       | apply BlockQ.ret
       | apply BlockQ.here
       | refine zbt ?_
       | apply LoopS.ret
       | apply LoopS.exit
       | apply LoopF.ret
       | apply LoopF.exit
       | (apply V.reg; (focus ((repeat (first
       | exact RO.nil
       | (apply RO.op; rfl; (simp only [hmx, hs2, happ, go_sem, get_nth, fieldAddrA, Nat.reduceDiv, Nat.reduceMod, Nat.reduceAdd, Nat.reduceSub, Nat.reduceEqDiff, Nat.reduceLeDiff, Nat.reduceLT, Nat.reduceMul, reduceIte, Nat.reducePow, Int.reduceEq, List.toList_toArray]; exact zL); rfl)
       | (apply RO.opg; exact zW; (intro h; (try simp only [Bool.and_eq_true, Bool.not_eq_true', Bool.not_eq_eq_eq_not, Bool.not_true] at h); simp only [h, hmx, hs2, happ, go_sem, get_nth, fieldAddrA, Nat.reduceDiv, Nat.reduceMod, Nat.reduceAdd, Nat.reduceSub, Nat.reduceEqDiff, Nat.reduceLeDiff, Nat.reduceLT, Nat.reduceMul, reduceIte, Nat.reducePow, Int.reduceEq, List.toList_toArray]; exact zL); rfl)
       | (apply RO.call; exact want0 rfl; (simp only [hmx, hs2, happ, go_sem, get_nth, fieldAddrA, Nat.reduceDiv, Nat.reduceMod, Nat.reduceAdd, Nat.reduceSub, Nat.reduceEqDiff, Nat.reduceLeDiff, Nat.reduceLT, Nat.reduceMul, reduceIte, Nat.reducePow, Int.reduceEq, List.toList_toArray]; rfl); fail; rfl)
       | (apply RO.callg; exact zW; (intro h; (try simp only [Bool.and_eq_true, Bool.not_eq_true', Bool.not_eq_eq_eq_not, Bool.not_true] at h); simp only [h, hmx, hs2, happ, go_sem, get_nth, fieldAddrA, Nat.reduceDiv, Nat.reduceMod, Nat.reduceAdd, Nat.reduceSub, Nat.reduceEqDiff, Nat.reduceLeDiff, Nat.reduceLT, Nat.reduceMul, reduceIte, Nat.reducePow, Int.reduceEq, List.toList_toArray]; rfl); (intro h; (try simp only [Bool.and_eq_true, Bool.not_eq_true', Bool.not_eq_eq_eq_not, Bool.not_true] at h); fail); rfl)
       | (apply RO.no; apply wantNo; exact zW; (first | rfl | (focus (simp only [hmx, hs2, happ, Bool.and_false, Bool.false_and, Bool.not_true, Bool.not_false, decide_true, decide_false, Bool.or_true, Bool.true_or, not_true_eq_false, not_false_eq_true, Bool.and_true, Bool.true_and]; done))); rfl))); done)))
       | (apply V.regd; (focus ((repeat (first
       | exact RO.nil
       | (apply RO.op; rfl; (simp only [hmx, hs2, happ, go_sem, get_nth, fieldAddrA, Nat.reduceDiv, Nat.reduceMod, Nat.reduceAdd, Nat.reduceSub, Nat.reduceEqDiff, Nat.reduceLeDiff, Nat.reduceLT, Nat.reduceMul, reduceIte, Nat.reducePow, Int.reduceEq, List.toList_toArray]; exact zL); rfl)
       | (apply RO.opg; exact zW; (intro h; (try simp only [Bool.and_eq_true, Bool.not_eq_true', Bool.not_eq_eq_eq_not, Bool.not_true] at h); simp only [h, hmx, hs2, happ, go_sem, get_nth, fieldAddrA, Nat.reduceDiv, Nat.reduceMod, Nat.reduceAdd, Nat.reduceSub, Nat.reduceEqDiff, Nat.reduceLeDiff, Nat.reduceLT, Nat.reduceMul, reduceIte, Nat.reducePow, Int.reduceEq, List.toList_toArray]; exact zL); rfl)
       | (apply RO.call; exact want0 rfl; (simp only [hmx, hs2, happ, go_sem, get_nth, fieldAddrA, Nat.reduceDiv, Nat.reduceMod, Nat.reduceAdd, Nat.reduceSub, Nat.reduceEqDiff, Nat.reduceLeDiff, Nat.reduceLT, Nat.reduceMul, reduceIte, Nat.reducePow, Int.reduceEq, List.toList_toArray]; rfl); fail; rfl)
       | (apply RO.callg; exact zW; (intro h; (try simp only [Bool.and_eq_true, Bool.not_eq_true', Bool.not_eq_eq_eq_not, Bool.not_true] at h); simp only [h, hmx, hs2, happ, go_sem, get_nth, fieldAddrA, Nat.reduceDiv, Nat.reduceMod, Nat.reduceAdd, Nat.reduceSub, Nat.reduceEqDiff, Nat.reduceLeDiff, Nat.reduceLT, Nat.reduceMul, reduceIte, Nat.reducePow, Int.reduceEq, List.toList_toArray]; rfl); (intro h; (try simp only [Bool.and_eq_true, Bool.not_eq_true', Bool.not_eq_eq_eq_not, Bool.not_true] at h); fail); rfl)
       | (apply RO.no; apply wantNo; exact zW; (first | rfl | (focus (simp only [hmx, hs2, happ, Bool.and_false, Bool.false_and, Bool.not_true, Bool.not_false, decide_true, decide_false, Bool.or_true, Bool.true_or, not_true_eq_false, not_false_eq_true, Bool.and_true, Bool.true_and]; done))); rfl))); done)); exact zK; exact zE)
       | (refine zvf (fun h => ?_) (fun h => ?_) <;> (replace h := zB h) <;> (try (exfalso; first | exact h | omega)))
       | (refine zfd Tryz.results20 ?_; (try dsimp only)))
      obtain ⟨g1, g2, g3⟩ := hgo 65533 (s.extract (max 1 n) s.size) (by omega) (by decide)
      exact LoopS.again ((s.extract (max 1 n) s.size).size) (by rfl) (by omega) ⟨_, _, _, _, rfl, rfl, g1, g2, g3⟩
    · obtain ⟨A', h1, h2⟩ := hret 0
      exact ⟨A', l, 0, h1, h2, by omega, hr⟩
theorem All_call (s : ByteArray) (hs : s.size < 2 ^ 40) : ∃ (A : AV) (l : List Int) (n : Nat), (∀ ys lo H, CallR EZ ys lo 20 [.v (.string s)] H (.tup [A, .v (.int .i64 n)]) H ⟨0, 0, 0⟩) ∧ Sl 1 A (runes l) ∧ l.length ≤ s.size ∧ ∀ c ∈ l, -2147483648 ≤ c ∧ c ≤ 2147483647 := by
  obtain ⟨x, ⟨A, l, n, rfl, h⟩, hc⟩ := WC.pure (E := EZ) (f := 20) (args := [.v (.string s)]) (K := fun x => ∃ (A : AV) (l : List Int) (n : Nat), x = .tup [A, .v (.int .i64 n)] ∧ Sl 1 A (runes l) ∧ l.length ≤ s.size ∧ ∀ c ∈ l, -2147483648 ≤ c ∧ c ≤ 2147483647) rfl rfl (All_wc s hs)
  exact ⟨A, l, n, hc, h⟩
theorem Short_run (s : ByteArray) (n : Nat) : CallR EZ ys lo 21 [.v (.string s), .v (.int .i64 (n : Int))] H (.v (.string (s.extract 0 (min s.size n)))) H ⟨0, 0, 0⟩ := by
  have hm : min (s.size : Int) (n : Int) = ((min s.size n : Nat) : Int) := by omega
  have hs1 := slice_str EZ 9 s none (some (.v (.int .i64 ((min s.size n : Nat) : Int)))) (l := 0) (r := min s.size n) (by kernel_rfl) rfl (by rw [bound_some _ _ _ (by omega), Int.toNat_natCast]) (Nat.zero_le _) (by omega)
  refine WC.pure' rfl rfl ?_ _ _ _
  refine zvin Tryz.func21 Tryz.ntmps21 ?_
  repeat' (first
   | apply V.sq
   | apply V.bl
   | apply V.sc
   | apply V.skip
   | apply V.label
   | apply V.ret
   | apply V.exit
   | apply SeqQ.normal
   | apply SeqQ.ret
   | apply SeqQ.exit
   | apply BlockQ.normal
   | apply BlockQ.ret
   | apply BlockQ.here
   | refine zbt ?_
   | apply LoopS.ret
   | apply LoopS.exit
   | apply LoopF.ret
   | apply LoopF.exit
   | (apply V.reg; (focus ((repeat (first
   | exact RO.nil
   | (apply RO.op; rfl; (simp only [hm, hs1, go_sem, get_nth, fieldAddrA, Nat.reduceDiv, Nat.reduceMod, Nat.reduceAdd, Nat.reduceSub, Nat.reduceEqDiff, Nat.reduceLeDiff, Nat.reduceLT, Nat.reduceMul, reduceIte, Nat.reducePow, Int.reduceEq, List.toList_toArray]; exact zL); rfl)
   | (apply RO.opg; exact zW; (intro h; (try simp only [Bool.and_eq_true, Bool.not_eq_true', Bool.not_eq_eq_eq_not, Bool.not_true] at h); simp only [h, hm, hs1, go_sem, get_nth, fieldAddrA, Nat.reduceDiv, Nat.reduceMod, Nat.reduceAdd, Nat.reduceSub, Nat.reduceEqDiff, Nat.reduceLeDiff, Nat.reduceLT, Nat.reduceMul, reduceIte, Nat.reducePow, Int.reduceEq, List.toList_toArray]; exact zL); rfl)
   | (apply RO.call; exact want0 rfl; (simp only [hm, hs1, go_sem, get_nth, fieldAddrA, Nat.reduceDiv, Nat.reduceMod, Nat.reduceAdd, Nat.reduceSub, Nat.reduceEqDiff, Nat.reduceLeDiff, Nat.reduceLT, Nat.reduceMul, reduceIte, Nat.reducePow, Int.reduceEq, List.toList_toArray]; rfl); fail; rfl)
   | (apply RO.callg; exact zW; (intro h; (try simp only [Bool.and_eq_true, Bool.not_eq_true', Bool.not_eq_eq_eq_not, Bool.not_true] at h); simp only [h, hm, hs1, go_sem, get_nth, fieldAddrA, Nat.reduceDiv, Nat.reduceMod, Nat.reduceAdd, Nat.reduceSub, Nat.reduceEqDiff, Nat.reduceLeDiff, Nat.reduceLT, Nat.reduceMul, reduceIte, Nat.reducePow, Int.reduceEq, List.toList_toArray]; rfl); (intro h; (try simp only [Bool.and_eq_true, Bool.not_eq_true', Bool.not_eq_eq_eq_not, Bool.not_true] at h); fail); rfl)
   | (apply RO.no; apply wantNo; exact zW; (first | rfl | (focus (simp only [hm, hs1, Bool.and_false, Bool.false_and, Bool.not_true, Bool.not_false, decide_true, decide_false, Bool.or_true, Bool.true_or, not_true_eq_false, not_false_eq_true, Bool.and_true, Bool.true_and]; done))); rfl))); done)))
   | (apply V.regd; (focus ((repeat (first
   | exact RO.nil
   | (apply RO.op; rfl; (simp only [hm, hs1, go_sem, get_nth, fieldAddrA, Nat.reduceDiv, Nat.reduceMod, Nat.reduceAdd, Nat.reduceSub, Nat.reduceEqDiff, Nat.reduceLeDiff, Nat.reduceLT, Nat.reduceMul, reduceIte, Nat.reducePow, Int.reduceEq, List.toList_toArray]; exact zL); rfl)
   | (apply RO.opg; exact zW; (intro h; (try simp only [Bool.and_eq_true, Bool.not_eq_true', Bool.not_eq_eq_eq_not, Bool.not_true] at h); simp only [h, hm, hs1, go_sem, get_nth, fieldAddrA, Nat.reduceDiv, Nat.reduceMod, Nat.reduceAdd, Nat.reduceSub, Nat.reduceEqDiff, Nat.reduceLeDiff, Nat.reduceLT, Nat.reduceMul, reduceIte, Nat.reducePow, Int.reduceEq, List.toList_toArray]; exact zL); rfl)
   | (apply RO.call; exact want0 rfl; (simp only [hm, hs1, go_sem, get_nth, fieldAddrA, Nat.reduceDiv, Nat.reduceMod, Nat.reduceAdd, Nat.reduceSub, Nat.reduceEqDiff, Nat.reduceLeDiff, Nat.reduceLT, Nat.reduceMul, reduceIte, Nat.reducePow, Int.reduceEq, List.toList_toArray]; rfl); fail; rfl)
   | (apply RO.callg; exact zW; (intro h; (try simp only [Bool.and_eq_true, Bool.not_eq_true', Bool.not_eq_eq_eq_not, Bool.not_true] at h); simp only [h, hm, hs1, go_sem, get_nth, fieldAddrA, Nat.reduceDiv, Nat.reduceMod, Nat.reduceAdd, Nat.reduceSub, Nat.reduceEqDiff, Nat.reduceLeDiff, Nat.reduceLT, Nat.reduceMul, reduceIte, Nat.reducePow, Int.reduceEq, List.toList_toArray]; rfl); (intro h; (try simp only [Bool.and_eq_true, Bool.not_eq_true', Bool.not_eq_eq_eq_not, Bool.not_true] at h); fail); rfl)
   | (apply RO.no; apply wantNo; exact zW; (first | rfl | (focus (simp only [hm, hs1, Bool.and_false, Bool.false_and, Bool.not_true, Bool.not_false, decide_true, decide_false, Bool.or_true, Bool.true_or, not_true_eq_false, not_false_eq_true, Bool.and_true, Bool.true_and]; done))); rfl))); done)); exact zK; exact zE)
   | (refine zvf (fun h => ?_) (fun h => ?_) <;> (replace h := zB h) <;> (try (exfalso; first | exact h | omega)))
   | (refine zfc Tryz.results21 ?_; (try dsimp only)))
  rfl
end
end Go.Am
