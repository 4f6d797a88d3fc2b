
/- The reference's signs of a text: forms, One, value, All. -/
import Derived.Test.YtmcimfmibpfnhaaGreatPEscQ
set_option linter.all false
set_option linter.deprecated false
namespace Go.Am
variable {oc : Orc} [OrcI oc]
open Go.Proofs
set_option maxRecDepth 8000
set_option maxHeartbeats 1000000
section
variable {ys : List (Nat × LRec)} {lo : Nat} {H : AHeap}
theorem index_strD (E : Env) (lo : Nat) (H : AHeap) (t : TypeId) (s : ByteArray) (κ : IntKind) (i : Nat) (ht : isStrT E.P t = true) (h : decide ((i : Int) < (s.size : Int)) = true) : primL lo H (indexA E t (.v (.string s)) (.v (.int κ (i : Int)))) = some (.v (.int .u8 ((s.data.toList.getD i 0).toNat : Int)), H, ⟨0, 0, 0⟩) := by
  have e : s.size = s.data.toList.length := rfl
  have h1 : i < s.data.toList.length := by have := of_decide_eq_true h; omega
  simp only [indexA, isStrT_ok ht]
  rw [if_pos (by omega), Int.toNat_natCast, List.getElem?_eq_getElem h1, List.getD_eq_getElem?_getD, List.getElem?_eq_getElem h1]
  rfl
theorem byte_range (b : UInt8) : 0 ≤ (b.toNat : Int) ∧ (b.toNat : Int) ≤ 255 := by have := b.toNat_lt; omega
theorem slice_str (E : Env) (t : TypeId) (s : ByteArray) (a b : Option AV) {l r : Nat} (ht : isStrT E.P t = true) (ha : bound? a 0 = some l) (hb : bound? b s.size = some r) (h1 : l ≤ r) (h2 : r ≤ s.size) : sliceA E t (.v (.string s)) a b none = .val (.v (.string (s.extract l r))) := by
  simp only [sliceA, ha, hb]
  rw [if_pos ⟨h1, h2, ht⟩]
theorem extract_size (s : ByteArray) (l r : Nat) (h1 : l ≤ r) (h2 : r ≤ s.size) : (s.extract l r).size = r - l := by
  rw [ByteArray.size_extract]; omega
theorem bin_shl (E : Env) (t : TypeId) (xo yo : Operand) (k k' : IntKind) (a b : Int) (hb : ¬ b < 0) : binOpA E .shl t xo yo (.v (.int k a)) (.v (.int k' b)) = .val (.v (.int k (k.wrap (a * 2 ^ (min b.toNat k.bits))))) := by
  have : det E.P (Op.shift .shl k a k' b) = some (.int k (k.wrap (a * 2 ^ (min b.toNat k.bits)))) := by simp only [Op.shift, if_neg hb]; rfl
  have h2 : det E.P (do eqGuard .shl t xo yo (.int k a) (.int k' b); binOp .shl t (.int k a) (.int k' b)) = det E.P (Op.shift .shl k a k' b) := rfl
  simp only [binOpA, h2, this]; rfl
theorem Short_run (s : ByteArray) (n : Nat) : CallR (ELo oc) ys lo 44 [.v (.string s), .v (.int .i64 (n : Int))] H (.v (.string (s.extract 0 (min s.size n)))) H ⟨0, 0, 0⟩ := by
  have hm : min (s.size : Int) (n : Int) = ((min s.size n : Nat) : Int) := by omega
  have hs1 := slice_str (ELo oc) 9 s none (some (.v (.int .i64 ((min s.size n : Nat) : Int)))) (l := 0) (r := min s.size n) (by kernel_rfl) rfl (by rw [bound_some _ _ _ (by omega), Int.toNat_natCast]) (Nat.zero_le _) (by omega)
  refine WC.pure' rfl rfl ?_ _ _ _
  refine zvin Tryz.func44 Tryz.ntmps44 ?_
  repeat' (first | refine zz ?_ | refine zbt ?_ | (apply V.reg; (focus ((repeat (first | exact RO.nil | (apply RO.op; rfl; (simp only [hm, hs1, go_sem, get_nth, fieldAddrA, Nat.reduceDiv, Nat.reduceMod, Nat.reduceAdd, Nat.reduceSub, Nat.reduceEqDiff, Nat.reduceLeDiff, Nat.reduceLT, Nat.reduceMul, reduceIte, Nat.reducePow, Int.reduceEq, List.toList_toArray]; exact zL); rfl) | (apply RO.opg; exact zW; (intro h; (try simp only [Bool.and_eq_true, Bool.not_eq_true', Bool.not_eq_eq_eq_not, Bool.not_true] at h); simp only [h, hm, hs1, go_sem, get_nth, fieldAddrA, Nat.reduceDiv, Nat.reduceMod, Nat.reduceAdd, Nat.reduceSub, Nat.reduceEqDiff, Nat.reduceLeDiff, Nat.reduceLT, Nat.reduceMul, reduceIte, Nat.reducePow, Int.reduceEq, List.toList_toArray]; exact zL); rfl) | (apply RO.call; exact want0 rfl; (simp only [hm, hs1, go_sem, get_nth, fieldAddrA, Nat.reduceDiv, Nat.reduceMod, Nat.reduceAdd, Nat.reduceSub, Nat.reduceEqDiff, Nat.reduceLeDiff, Nat.reduceLT, Nat.reduceMul, reduceIte, Nat.reducePow, Int.reduceEq, List.toList_toArray]; rfl); fail; rfl) | (apply RO.callg; exact zW; (intro h; (try simp only [Bool.and_eq_true, Bool.not_eq_true', Bool.not_eq_eq_eq_not, Bool.not_true] at h); simp only [h, hm, hs1, go_sem, get_nth, fieldAddrA, Nat.reduceDiv, Nat.reduceMod, Nat.reduceAdd, Nat.reduceSub, Nat.reduceEqDiff, Nat.reduceLeDiff, Nat.reduceLT, Nat.reduceMul, reduceIte, Nat.reducePow, Int.reduceEq, List.toList_toArray]; rfl); (intro h; (try simp only [Bool.and_eq_true, Bool.not_eq_true', Bool.not_eq_eq_eq_not, Bool.not_true] at h); fail); rfl) | (apply RO.no; apply wantNo; exact zW; (first | rfl | (focus (simp only [hm, hs1, Bool.and_false, Bool.false_and, Bool.not_true, Bool.not_false, decide_true, decide_false, Bool.or_true, Bool.true_or, not_true_eq_false, not_false_eq_true, Bool.and_true, Bool.true_and]; done))); rfl))); done))) | (apply V.regd; (focus ((repeat (first | exact RO.nil | (apply RO.op; rfl; (simp only [hm, hs1, go_sem, get_nth, fieldAddrA, Nat.reduceDiv, Nat.reduceMod, Nat.reduceAdd, Nat.reduceSub, Nat.reduceEqDiff, Nat.reduceLeDiff, Nat.reduceLT, Nat.reduceMul, reduceIte, Nat.reducePow, Int.reduceEq, List.toList_toArray]; exact zL); rfl) | (apply RO.opg; exact zW; (intro h; (try simp only [Bool.and_eq_true, Bool.not_eq_true', Bool.not_eq_eq_eq_not, Bool.not_true] at h); simp only [h, hm, hs1, go_sem, get_nth, fieldAddrA, Nat.reduceDiv, Nat.reduceMod, Nat.reduceAdd, Nat.reduceSub, Nat.reduceEqDiff, Nat.reduceLeDiff, Nat.reduceLT, Nat.reduceMul, reduceIte, Nat.reducePow, Int.reduceEq, List.toList_toArray]; exact zL); rfl) | (apply RO.call; exact want0 rfl; (simp only [hm, hs1, go_sem, get_nth, fieldAddrA, Nat.reduceDiv, Nat.reduceMod, Nat.reduceAdd, Nat.reduceSub, Nat.reduceEqDiff, Nat.reduceLeDiff, Nat.reduceLT, Nat.reduceMul, reduceIte, Nat.reducePow, Int.reduceEq, List.toList_toArray]; rfl); fail; rfl) | (apply RO.callg; exact zW; (intro h; (try simp only [Bool.and_eq_true, Bool.not_eq_true', Bool.not_eq_eq_eq_not, Bool.not_true] at h); simp only [h, hm, hs1, go_sem, get_nth, fieldAddrA, Nat.reduceDiv, Nat.reduceMod, Nat.reduceAdd, Nat.reduceSub, Nat.reduceEqDiff, Nat.reduceLeDiff, Nat.reduceLT, Nat.reduceMul, reduceIte, Nat.reducePow, Int.reduceEq, List.toList_toArray]; rfl); (intro h; (try simp only [Bool.and_eq_true, Bool.not_eq_true', Bool.not_eq_eq_eq_not, Bool.not_true] at h); fail); rfl) | (apply RO.no; apply wantNo; exact zW; (first | rfl | (focus (simp only [hm, hs1, Bool.and_false, Bool.false_and, Bool.not_true, Bool.not_false, decide_true, decide_false, Bool.or_true, Bool.true_or, not_true_eq_false, not_false_eq_true, Bool.and_true, Bool.true_and]; done))); rfl))); done)); exact zK; exact zE) | (refine zvf (fun h => ?_) (fun h => ?_) <;> (replace h := zB h) <;> (try (exfalso; first | exact h | omega))) | (refine zfc Tryz.results44 ?_; (try dsimp only)))
  rfl
end
end Go.Am
