/- utf8.AppendRune; the signs of an OSC; esc.Parser.Put. -/
import Derived.Test.YtoeemmlfcnokiaaAEsc1
set_option linter.all false
set_option linter.deprecated false
namespace Go.Am
open Go.Proofs
set_option maxRecDepth 8000
set_option maxHeartbeats 1000000
theorem wrap_u8' (n : Int) : IntKind.u8.wrap n = n % 256 := IntKind.wrap_u8 n
theorem wrap_u32' (n : Int) : IntKind.u32.wrap n = n % 4294967296 := IntKind.wrap_u32 n
theorem or_192 (x : Int) (h : 0 ≤ x ∧ x < 32) : orI .u8 192 x = 192 + x := by
  have : ∀ n : Fin 32, orI .u8 192 ((n.val : Nat) : Int) = 192 + ((n.val : Nat) : Int) := by decide
  obtain ⟨n, rfl⟩ := Int.eq_ofNat_of_zero_le h.1
  exact this ⟨n, by omega⟩
theorem or_224 (x : Int) (h : 0 ≤ x ∧ x < 16) : orI .u8 224 x = 224 + x := by
  have : ∀ n : Fin 16, orI .u8 224 ((n.val : Nat) : Int) = 224 + ((n.val : Nat) : Int) := by decide
  obtain ⟨n, rfl⟩ := Int.eq_ofNat_of_zero_le h.1
  exact this ⟨n, by omega⟩
theorem or_240 (x : Int) (h : 0 ≤ x ∧ x < 8) : orI .u8 240 x = 240 + x := by
  have : ∀ n : Fin 8, orI .u8 240 ((n.val : Nat) : Int) = 240 + ((n.val : Nat) : Int) := by decide
  obtain ⟨n, rfl⟩ := Int.eq_ofNat_of_zero_le h.1
  exact this ⟨n, by omega⟩
set_option maxRecDepth 20000 in
theorem or_and (x : Int) (h : 0 ≤ x ∧ x < 256) : orI .u8 128 (andI .u8 x 63) = 128 + x % 64 := by
  have : ∀ n : Fin 256, orI .u8 128 (andI .u8 ((n.val : Nat) : Int) 63) = 128 + ((n.val : Nat) : Int) % 64 := by decide
  obtain ⟨n, rfl⟩ := Int.eq_ofNat_of_zero_le h.1
  exact this ⟨n, by omega⟩
theorem fdiv6 (r : Int) : shrI .i32 r 6 = r / 64 := by
  show r.fdiv 64 = _; rw [Int.fdiv_eq_ediv_of_nonneg _ (by omega)]
theorem fdiv12 (r : Int) : shrI .i32 r 12 = r / 4096 := by
  show r.fdiv 4096 = _; rw [Int.fdiv_eq_ediv_of_nonneg _ (by omega)]
theorem fdiv18 (r : Int) : shrI .i32 r 18 = r / 262144 := by
  show r.fdiv 262144 = _; rw [Int.fdiv_eq_ediv_of_nonneg _ (by omega)]
section
variable {ys : List (Nat × LRec)} {lo : Nat} {H : AHeap} {F : Nat → Prop} {n : Nat} {w : Int} {t : List Int}
theorem appendNon_wc (hlo : ∀ k, F k → lo ≤ k) (hF : ∀ k, F k → k < H.next) {x : AV} {bs : List Int} (hx : OwnS H F 5 1 x (bytesL bs)) (r : Int) (hr : -2147483648 ≤ r ∧ r ≤ 2147483647) (h127 : r < 0 ∨ 127 < r) (hb : bs.length < 2 ^ 40) : WC EA ys lo 83 [x, .v (.int .i32 r)] H fun R H' => Turn F H H' ∧ OwnS H' (grow F H H') 5 1 R (bytesL (bs ++ enc r)) := by
  obtain ⟨R, G, tr, hap⟩ := append_lits EA lo (t := 26) (bytes := 1) (by kernel_rfl) hx hF hlo (by rw [bytesL_len]; show (bs.length + 8) * 1 ≤ 140737488355328; omega)
  have h1 := fun new k a b c => (hap new k a b c).1
  refine WC.enter Try.func83 rfl (Nat.le_of_ble_eq_true rfl) (by simp only [Slots.of, Try.ntmps83, Nat.reduceAdd, Nat.reduceDiv, rows8P, row8]; rfl) ?_
  repeat' (first
   | apply V.sq
   | apply V.bl
   | apply V.sc
   | apply V.skip
   | apply V.label
   | apply V.ret
   | apply V.exit
   | apply SeqQ.normal
   | apply SeqQ.ret
   | apply SeqQ.exit
   | apply BlockQ.normal
   | apply BlockQ.ret
   | apply BlockQ.here
   | (apply BlockQ.there; decide)
   | apply LoopS.ret
   | apply LoopS.exit
   | apply LoopF.ret
   | apply LoopF.exit
   | (apply V.reg; (focus ((repeat (first
   | exact RO.nil
   | (apply RO.op; rfl; (simp only [h1, bin_or, bin_and, bin_shr, fdiv6, fdiv12, fdiv18, Int.reduceLT, not_false_eq_true, go_sem, Nat.reduceDiv, Nat.reduceMod, Nat.reduceAdd, Nat.reduceSub, Nat.reduceEqDiff, Nat.reduceLeDiff, Nat.reduceLT, Nat.reduceMul, reduceIte, Nat.reducePow, Int.reduceEq, List.toList_toArray]; (first | rfl | (apply ite_ok; (first | assumption | rfl | omega | (refine ⟨?_, ?_⟩ <;> omega)); rfl))); rfl)
   | (apply RO.opg; (first | (apply wantT; rfl; rfl; (simp only [Nat.reduceDiv, Nat.reduceMod, get_nth, nth_zero, nth_succ]; rfl)) | (apply wantF; rfl; rfl; (simp only [Nat.reduceDiv, Nat.reduceMod, get_nth, nth_zero, nth_succ]; rfl)) | (apply wantTg; rfl; rfl; (simp only [Nat.reduceDiv, Nat.reduceMod, get_nth, nth_zero, nth_succ]; rfl)) | (apply wantFg; rfl; rfl; (simp only [Nat.reduceDiv, Nat.reduceMod, get_nth, nth_zero, nth_succ]; rfl)) | (apply wantU; rfl; rfl; (simp only [Nat.reduceDiv, Nat.reduceMod, get_nth, nth_zero, nth_succ]; rfl))); (intro h; (try simp only [Bool.and_eq_true, Bool.not_eq_true', Bool.not_eq_eq_eq_not, Bool.not_true] at h); simp only [h, h1, bin_or, bin_and, bin_shr, fdiv6, fdiv12, fdiv18, Int.reduceLT, not_false_eq_true, go_sem, Nat.reduceDiv, Nat.reduceMod, Nat.reduceAdd, Nat.reduceSub, Nat.reduceEqDiff, Nat.reduceLeDiff, Nat.reduceLT, Nat.reduceMul, reduceIte, Nat.reducePow, Int.reduceEq, List.toList_toArray]; (first | rfl | (apply ite_ok; (first | assumption | rfl | omega | (refine ⟨?_, ?_⟩ <;> omega)); rfl))); rfl)
   | (apply RO.call; exact want0 rfl; (simp only [h1, bin_or, bin_and, bin_shr, fdiv6, fdiv12, fdiv18, Int.reduceLT, not_false_eq_true, go_sem, Nat.reduceDiv, Nat.reduceMod, Nat.reduceAdd, Nat.reduceSub, Nat.reduceEqDiff, Nat.reduceLeDiff, Nat.reduceLT, Nat.reduceMul, reduceIte, Nat.reducePow, Int.reduceEq, List.toList_toArray]; rfl); fail; rfl)
   | (apply RO.callg; (first | (apply wantT; rfl; rfl; (simp only [Nat.reduceDiv, Nat.reduceMod, get_nth, nth_zero, nth_succ]; rfl)) | (apply wantF; rfl; rfl; (simp only [Nat.reduceDiv, Nat.reduceMod, get_nth, nth_zero, nth_succ]; rfl)) | (apply wantTg; rfl; rfl; (simp only [Nat.reduceDiv, Nat.reduceMod, get_nth, nth_zero, nth_succ]; rfl)) | (apply wantFg; rfl; rfl; (simp only [Nat.reduceDiv, Nat.reduceMod, get_nth, nth_zero, nth_succ]; rfl)) | (apply wantU; rfl; rfl; (simp only [Nat.reduceDiv, Nat.reduceMod, get_nth, nth_zero, nth_succ]; rfl))); (intro h; (try simp only [Bool.and_eq_true, Bool.not_eq_true', Bool.not_eq_eq_eq_not, Bool.not_true] at h); simp only [h, h1, bin_or, bin_and, bin_shr, fdiv6, fdiv12, fdiv18, Int.reduceLT, not_false_eq_true, go_sem, Nat.reduceDiv, Nat.reduceMod, Nat.reduceAdd, Nat.reduceSub, Nat.reduceEqDiff, Nat.reduceLeDiff, Nat.reduceLT, Nat.reduceMul, reduceIte, Nat.reducePow, Int.reduceEq, List.toList_toArray]; rfl); (intro h; (try simp only [Bool.and_eq_true, Bool.not_eq_true', Bool.not_eq_eq_eq_not, Bool.not_true] at h); fail); rfl)
   | (apply RO.no; apply wantNo; (first | (apply wantT; rfl; rfl; (simp only [Nat.reduceDiv, Nat.reduceMod, get_nth, nth_zero, nth_succ]; rfl)) | (apply wantF; rfl; rfl; (simp only [Nat.reduceDiv, Nat.reduceMod, get_nth, nth_zero, nth_succ]; rfl)) | (apply wantTg; rfl; rfl; (simp only [Nat.reduceDiv, Nat.reduceMod, get_nth, nth_zero, nth_succ]; rfl)) | (apply wantFg; rfl; rfl; (simp only [Nat.reduceDiv, Nat.reduceMod, get_nth, nth_zero, nth_succ]; rfl)) | (apply wantU; rfl; rfl; (simp only [Nat.reduceDiv, Nat.reduceMod, get_nth, nth_zero, nth_succ]; rfl))); (first | rfl | (simp only [h1, bin_or, bin_and, bin_shr, fdiv6, fdiv12, fdiv18, Int.reduceLT, not_false_eq_true, Bool.and_false, Bool.false_and, Bool.not_true, Bool.not_false, decide_true, decide_false, Bool.or_true, Bool.true_or, not_true_eq_false, not_false_eq_true, Bool.and_true, Bool.true_and]; done)); rfl))); done)))
   | (apply V.regd; (focus ((repeat (first
   | exact RO.nil
   | (apply RO.op; rfl; (simp only [h1, bin_or, bin_and, bin_shr, fdiv6, fdiv12, fdiv18, Int.reduceLT, not_false_eq_true, go_sem, Nat.reduceDiv, Nat.reduceMod, Nat.reduceAdd, Nat.reduceSub, Nat.reduceEqDiff, Nat.reduceLeDiff, Nat.reduceLT, Nat.reduceMul, reduceIte, Nat.reducePow, Int.reduceEq, List.toList_toArray]; (first | rfl | (apply ite_ok; (first | assumption | rfl | omega | (refine ⟨?_, ?_⟩ <;> omega)); rfl))); rfl)
   | (apply RO.opg; (first | (apply wantT; rfl; rfl; (simp only [Nat.reduceDiv, Nat.reduceMod, get_nth, nth_zero, nth_succ]; rfl)) | (apply wantF; rfl; rfl; (simp only [Nat.reduceDiv, Nat.reduceMod, get_nth, nth_zero, nth_succ]; rfl)) | (apply wantTg; rfl; rfl; (simp only [Nat.reduceDiv, Nat.reduceMod, get_nth, nth_zero, nth_succ]; rfl)) | (apply wantFg; rfl; rfl; (simp only [Nat.reduceDiv, Nat.reduceMod, get_nth, nth_zero, nth_succ]; rfl)) | (apply wantU; rfl; rfl; (simp only [Nat.reduceDiv, Nat.reduceMod, get_nth, nth_zero, nth_succ]; rfl))); (intro h; (try simp only [Bool.and_eq_true, Bool.not_eq_true', Bool.not_eq_eq_eq_not, Bool.not_true] at h); simp only [h, h1, bin_or, bin_and, bin_shr, fdiv6, fdiv12, fdiv18, Int.reduceLT, not_false_eq_true, go_sem, Nat.reduceDiv, Nat.reduceMod, Nat.reduceAdd, Nat.reduceSub, Nat.reduceEqDiff, Nat.reduceLeDiff, Nat.reduceLT, Nat.reduceMul, reduceIte, Nat.reducePow, Int.reduceEq, List.toList_toArray]; (first | rfl | (apply ite_ok; (first | assumption | rfl | omega | (refine ⟨?_, ?_⟩ <;> omega)); rfl))); rfl)
   | (apply RO.call; exact want0 rfl; (simp only [h1, bin_or, bin_and, bin_shr, fdiv6, fdiv12, fdiv18, Int.reduceLT, not_false_eq_true, go_sem, Nat.reduceDiv, Nat.reduceMod, Nat.reduceAdd, Nat.reduceSub, Nat.reduceEqDiff, Nat.reduceLeDiff, Nat.reduceLT, Nat.reduceMul, reduceIte, Nat.reducePow, Int.reduceEq, List.toList_toArray]; rfl); fail; rfl)
   | (apply RO.callg; (first | (apply wantT; rfl; rfl; (simp only [Nat.reduceDiv, Nat.reduceMod, get_nth, nth_zero, nth_succ]; rfl)) | (apply wantF; rfl; rfl; (simp only [Nat.reduceDiv, Nat.reduceMod, get_nth, nth_zero, nth_succ]; rfl)) | (apply wantTg; rfl; rfl; (simp only [Nat.reduceDiv, Nat.reduceMod, get_nth, nth_zero, nth_succ]; rfl)) | (apply wantFg; rfl; rfl; (simp only [Nat.reduceDiv, Nat.reduceMod, get_nth, nth_zero, nth_succ]; rfl)) | (apply wantU; rfl; rfl; (simp only [Nat.reduceDiv, Nat.reduceMod, get_nth, nth_zero, nth_succ]; rfl))); (intro h; (try simp only [Bool.and_eq_true, Bool.not_eq_true', Bool.not_eq_eq_eq_not, Bool.not_true] at h); simp only [h, h1, bin_or, bin_and, bin_shr, fdiv6, fdiv12, fdiv18, Int.reduceLT, not_false_eq_true, go_sem, Nat.reduceDiv, Nat.reduceMod, Nat.reduceAdd, Nat.reduceSub, Nat.reduceEqDiff, Nat.reduceLeDiff, Nat.reduceLT, Nat.reduceMul, reduceIte, Nat.reducePow, Int.reduceEq, List.toList_toArray]; rfl); (intro h; (try simp only [Bool.and_eq_true, Bool.not_eq_true', Bool.not_eq_eq_eq_not, Bool.not_true] at h); fail); rfl)
   | (apply RO.no; apply wantNo; (first | (apply wantT; rfl; rfl; (simp only [Nat.reduceDiv, Nat.reduceMod, get_nth, nth_zero, nth_succ]; rfl)) | (apply wantF; rfl; rfl; (simp only [Nat.reduceDiv, Nat.reduceMod, get_nth, nth_zero, nth_succ]; rfl)) | (apply wantTg; rfl; rfl; (simp only [Nat.reduceDiv, Nat.reduceMod, get_nth, nth_zero, nth_succ]; rfl)) | (apply wantFg; rfl; rfl; (simp only [Nat.reduceDiv, Nat.reduceMod, get_nth, nth_zero, nth_succ]; rfl)) | (apply wantU; rfl; rfl; (simp only [Nat.reduceDiv, Nat.reduceMod, get_nth, nth_zero, nth_succ]; rfl))); (first | rfl | (simp only [h1, bin_or, bin_and, bin_shr, fdiv6, fdiv12, fdiv18, Int.reduceLT, not_false_eq_true, Bool.and_false, Bool.false_and, Bool.not_true, Bool.not_false, decide_true, decide_false, Bool.or_true, Bool.true_or, not_true_eq_false, not_false_eq_true, Bool.and_true, Bool.true_and]; done)); rfl))); done)); (focus kernel_rfl); (focus (first | (apply okPairs_kinds; (focus ((repeat (first | exact Kinds.nil | (apply Kinds.ro; (first | exact RoT.zero | exact RoT.rd | exact RoT.all | exact RoT.rdTr _ | assumption)) | apply Kinds.any)); done)); decide +kernel) | kernel_rfl)))
   | (refine V.cond rfl (fun h => ?_) (fun h => ?_) <;> (try simp only [decide_eq_true_eq, decide_eq_false_iff_not, Bool.and_eq_true, Bool.or_eq_true, Bool.and_eq_false_iff, Bool.or_eq_false_iff, Bool.not_eq_true', Bool.not_eq_false', Bool.not_true, Bool.not_false, Classical.not_not, Int.not_lt, Int.not_le, reduceCtorEq, not_true_eq_false, not_false_eq_true, decide_true, decide_false, Int.reduceEq, Int.reduceLT, Int.reduceLE] at h) <;> (try (exfalso; omega)))
   | (refine FnQ.normal (res0 Try.results83) rfl ?_; (try dsimp only))
   | (refine FnQ.ret (res0 Try.results83) rfl ?_; (try dsimp only))
   | (refine FnQ.ret (res1 Try.results83) (by simp only [Nat.reduceDiv, Nat.reduceMod, get_nth, nth_zero, nth_succ]; rfl) ?_; (try dsimp only))
   | (refine FnQ.ret (res2 Try.results83) (by simp only [Nat.reduceDiv, Nat.reduceMod, get_nth, nth_zero, nth_succ]; rfl) ?_; (try dsimp only))
   | (refine FnQ.retB (resc Try.results83) (by simp only [cellR_op, h1, bin_or, bin_and, bin_shr, fdiv6, fdiv12, fdiv18, Int.reduceLT, not_false_eq_true, go_sem, Nat.reduceDiv, Nat.reduceMod, Nat.reduceAdd, Nat.reduceSub, Nat.reduceEqDiff, Nat.reduceLeDiff, Nat.reduceLT, Nat.reduceMul, reduceIte, Nat.reducePow, Int.reduceEq, List.toList_toArray]; rfl) ?_; (try dsimp only))
   | (refine FnQ.retB (resct Try.results83) (by simp only [cellR_op, h1, bin_or, bin_and, bin_shr, fdiv6, fdiv12, fdiv18, Int.reduceLT, not_false_eq_true, go_sem, Nat.reduceDiv, Nat.reduceMod, Nat.reduceAdd, Nat.reduceSub, Nat.reduceEqDiff, Nat.reduceLeDiff, Nat.reduceLT, Nat.reduceMul, reduceIte, Nat.reducePow, Int.reduceEq, List.toList_toArray]; rfl) ?_; (try dsimp only)))
  · rw [wrap_u32'] at h
    have hn : 0 ≤ r ∧ r ≤ 2047 := by omega
    have e1 : bytesL (enc r) = [[.v (.int .u8 (192 + r / 64))], [.v (.int .u8 (128 + r % 64))]] := by
      rw [enc, if_pos (show signB r = true from decide_eq_true (by omega)), if_neg (by omega), if_pos (by omega)]; rfl
    rw [wrap_u8' (r / 64), wrap_u8' r, or_192 _ (by omega), or_and _ (by omega)]
    rw [show r / 64 % 256 = r / 64 by omega, show r % 256 % 64 = r % 64 by omega]
    obtain ⟨_, h2, h3, _⟩ := hap [[.v (.int .u8 (192 + r / 64))], [.v (.int .u8 (128 + r % 64))]] 2 rfl (by decide) (by decide)
    exact ⟨h2, by rw [bytesL_append, e1]; exact h3⟩
  · simp only [wrap_u32'] at *
    have hn : 2048 ≤ r ∧ r < 55296 := by omega
    have e1 : bytesL (enc r) = [[.v (.int .u8 (224 + r / 4096))], [.v (.int .u8 (128 + r / 64 % 64))], [.v (.int .u8 (128 + r % 64))]] := by
      rw [enc, if_pos (show signB r = true from decide_eq_true (by omega)), if_neg (by omega), if_neg (by omega), if_pos (by omega)]; rfl
    rw [wrap_u8' (r / 4096), wrap_u8' (r / 64), wrap_u8' r, or_224 _ (by omega), or_and (r / 64 % 256) (by omega), or_and (r % 256) (by omega)]
    rw [show r / 4096 % 256 = r / 4096 by omega, show r / 64 % 256 % 64 = r / 64 % 64 by omega, show r % 256 % 64 = r % 64 by omega]
    obtain ⟨_, h2, h3, _⟩ := hap [[.v (.int .u8 (224 + r / 4096))], [.v (.int .u8 (128 + r / 64 % 64))], [.v (.int .u8 (128 + r % 64))]] 3 rfl (by decide) (by decide)
    exact ⟨h2, by rw [bytesL_append, e1]; exact h3⟩
  · simp only [wrap_u32'] at *
    have hn : 57343 < r ∧ r ≤ 65535 := by omega
    have e1 : bytesL (enc r) = [[.v (.int .u8 (224 + r / 4096))], [.v (.int .u8 (128 + r / 64 % 64))], [.v (.int .u8 (128 + r % 64))]] := by
      rw [enc, if_pos (show signB r = true from decide_eq_true (by omega)), if_neg (by omega), if_neg (by omega), if_pos (by omega)]; rfl
    rw [wrap_u8' (r / 4096), wrap_u8' (r / 64), wrap_u8' r, or_224 _ (by omega), or_and (r / 64 % 256) (by omega), or_and (r % 256) (by omega)]
    rw [show r / 4096 % 256 = r / 4096 by omega, show r / 64 % 256 % 64 = r / 64 % 64 by omega, show r % 256 % 64 = r % 64 by omega]
    obtain ⟨_, h2, h3, _⟩ := hap [[.v (.int .u8 (224 + r / 4096))], [.v (.int .u8 (128 + r / 64 % 64))], [.v (.int .u8 (128 + r % 64))]] 3 rfl (by decide) (by decide)
    exact ⟨h2, by rw [bytesL_append, e1]; exact h3⟩
  · simp only [wrap_u32'] at *
    have hn : 65535 < r ∧ r ≤ 1114111 := by omega
    have e1 : bytesL (enc r) = [[.v (.int .u8 (240 + r / 262144))], [.v (.int .u8 (128 + r / 4096 % 64))], [.v (.int .u8 (128 + r / 64 % 64))], [.v (.int .u8 (128 + r % 64))]] := by
      rw [enc, if_pos (show signB r = true from decide_eq_true (by omega)), if_neg (by omega), if_neg (by omega), if_neg (by omega)]; rfl
    rw [wrap_u8' (r / 262144), wrap_u8' (r / 4096), wrap_u8' (r / 64), wrap_u8' r, or_240 _ (by omega), or_and (r / 4096 % 256) (by omega), or_and (r / 64 % 256) (by omega), or_and (r % 256) (by omega)]
    rw [show r / 262144 % 256 = r / 262144 by omega, show r / 4096 % 256 % 64 = r / 4096 % 64 by omega, show r / 64 % 256 % 64 = r / 64 % 64 by omega, show r % 256 % 64 = r % 64 by omega]
    obtain ⟨_, h2, h3, _⟩ := hap [[.v (.int .u8 (240 + r / 262144))], [.v (.int .u8 (128 + r / 4096 % 64))], [.v (.int .u8 (128 + r / 64 % 64))], [.v (.int .u8 (128 + r % 64))]] 4 rfl (by decide) (by decide)
    exact ⟨h2, by rw [bytesL_append, e1]; exact h3⟩
  · simp only [wrap_u32'] at *
    have e1 : bytesL (enc r) = [[.v (.int .u8 239)], [.v (.int .u8 191)], [.v (.int .u8 189)]] := by
      have : signB r = false := decide_eq_false (by omega)
      rw [enc, this]; rfl
    obtain ⟨_, h2, h3, _⟩ := hap [[.v (.int .u8 239)], [.v (.int .u8 191)], [.v (.int .u8 189)]] 3 rfl (by decide) (by decide)
    exact ⟨h2, by rw [bytesL_append, e1]; exact h3⟩
theorem appendRune_wc (hlo : ∀ k, F k → lo ≤ k) (hF : ∀ k, F k → k < H.next) {x : AV} {bs : List Int} (hx : OwnS H F 5 1 x (bytesL bs)) (r : Int) (hr : -2147483648 ≤ r ∧ r ≤ 2147483647) (hb : bs.length < 2 ^ 40) : WC EA ys lo 51 [x, .v (.int .i32 r)] H fun R H' => Turn F H H' ∧ OwnS H' (grow F H H') 5 1 R (bytesL (bs ++ enc r)) := by
  obtain ⟨R, G, tr, hap⟩ := append_lits EA lo (t := 26) (bytes := 1) (by kernel_rfl) hx hF hlo (by rw [bytesL_len]; show (bs.length + 8) * 1 ≤ 140737488355328; omega)
  have h1 := fun new k a b c => (hap new k a b c).1
  refine WC.enter Try.func51 rfl (Nat.le_of_ble_eq_true rfl) (by simp only [Slots.of, Try.ntmps51, Nat.reduceAdd, Nat.reduceDiv, rows8P, row8]; rfl) ?_
  repeat' (first
   | apply V.sq
   | apply V.bl
   | apply V.sc
   | apply V.skip
   | apply V.label
   | apply V.ret
   | apply V.exit
   | apply SeqQ.normal
   | apply SeqQ.ret
   | apply SeqQ.exit
   | apply BlockQ.normal
   | apply BlockQ.ret
   | apply BlockQ.here
   | (apply BlockQ.there; decide)
   | apply LoopS.ret
   | apply LoopS.exit
   | apply LoopF.ret
   | apply LoopF.exit
   | (apply V.reg; (focus ((repeat (first
   | exact RO.nil
   | (apply RO.op; rfl; (simp only [h1, go_sem, Nat.reduceDiv, Nat.reduceMod, Nat.reduceAdd, Nat.reduceSub, Nat.reduceEqDiff, Nat.reduceLeDiff, Nat.reduceLT, Nat.reduceMul, reduceIte, Nat.reducePow, Int.reduceEq, List.toList_toArray]; (first | rfl | (apply ite_ok; (first | assumption | rfl | omega | (refine ⟨?_, ?_⟩ <;> omega)); rfl))); rfl)
   | (apply RO.opg; (first | (apply wantT; rfl; rfl; (simp only [Nat.reduceDiv, Nat.reduceMod, get_nth, nth_zero, nth_succ]; rfl)) | (apply wantF; rfl; rfl; (simp only [Nat.reduceDiv, Nat.reduceMod, get_nth, nth_zero, nth_succ]; rfl)) | (apply wantTg; rfl; rfl; (simp only [Nat.reduceDiv, Nat.reduceMod, get_nth, nth_zero, nth_succ]; rfl)) | (apply wantFg; rfl; rfl; (simp only [Nat.reduceDiv, Nat.reduceMod, get_nth, nth_zero, nth_succ]; rfl)) | (apply wantU; rfl; rfl; (simp only [Nat.reduceDiv, Nat.reduceMod, get_nth, nth_zero, nth_succ]; rfl))); (intro h; (try simp only [Bool.and_eq_true, Bool.not_eq_true', Bool.not_eq_eq_eq_not, Bool.not_true] at h); simp only [h, h1, go_sem, Nat.reduceDiv, Nat.reduceMod, Nat.reduceAdd, Nat.reduceSub, Nat.reduceEqDiff, Nat.reduceLeDiff, Nat.reduceLT, Nat.reduceMul, reduceIte, Nat.reducePow, Int.reduceEq, List.toList_toArray]; (first | rfl | (apply ite_ok; (first | assumption | rfl | omega | (refine ⟨?_, ?_⟩ <;> omega)); rfl))); rfl)
   | (apply RO.call; exact want0 rfl; (simp only [h1, go_sem, Nat.reduceDiv, Nat.reduceMod, Nat.reduceAdd, Nat.reduceSub, Nat.reduceEqDiff, Nat.reduceLeDiff, Nat.reduceLT, Nat.reduceMul, reduceIte, Nat.reducePow, Int.reduceEq, List.toList_toArray]; rfl); fail; rfl)
   | (apply RO.callg; (first | (apply wantT; rfl; rfl; (simp only [Nat.reduceDiv, Nat.reduceMod, get_nth, nth_zero, nth_succ]; rfl)) | (apply wantF; rfl; rfl; (simp only [Nat.reduceDiv, Nat.reduceMod, get_nth, nth_zero, nth_succ]; rfl)) | (apply wantTg; rfl; rfl; (simp only [Nat.reduceDiv, Nat.reduceMod, get_nth, nth_zero, nth_succ]; rfl)) | (apply wantFg; rfl; rfl; (simp only [Nat.reduceDiv, Nat.reduceMod, get_nth, nth_zero, nth_succ]; rfl)) | (apply wantU; rfl; rfl; (simp only [Nat.reduceDiv, Nat.reduceMod, get_nth, nth_zero, nth_succ]; rfl))); (intro h; (try simp only [Bool.and_eq_true, Bool.not_eq_true', Bool.not_eq_eq_eq_not, Bool.not_true] at h); simp only [h, h1, go_sem, Nat.reduceDiv, Nat.reduceMod, Nat.reduceAdd, Nat.reduceSub, Nat.reduceEqDiff, Nat.reduceLeDiff, Nat.reduceLT, Nat.reduceMul, reduceIte, Nat.reducePow, Int.reduceEq, List.toList_toArray]; rfl); (intro h; (try simp only [Bool.and_eq_true, Bool.not_eq_true', Bool.not_eq_eq_eq_not, Bool.not_true] at h); fail); rfl)
   | (apply RO.no; apply wantNo; (first | (apply wantT; rfl; rfl; (simp only [Nat.reduceDiv, Nat.reduceMod, get_nth, nth_zero, nth_succ]; rfl)) | (apply wantF; rfl; rfl; (simp only [Nat.reduceDiv, Nat.reduceMod, get_nth, nth_zero, nth_succ]; rfl)) | (apply wantTg; rfl; rfl; (simp only [Nat.reduceDiv, Nat.reduceMod, get_nth, nth_zero, nth_succ]; rfl)) | (apply wantFg; rfl; rfl; (simp only [Nat.reduceDiv, Nat.reduceMod, get_nth, nth_zero, nth_succ]; rfl)) | (apply wantU; rfl; rfl; (simp only [Nat.reduceDiv, Nat.reduceMod, get_nth, nth_zero, nth_succ]; rfl))); (first | rfl | (simp only [h1, Bool.and_false, Bool.false_and, Bool.not_true, Bool.not_false, decide_true, decide_false, Bool.or_true, Bool.true_or, not_true_eq_false, not_false_eq_true, Bool.and_true, Bool.true_and]; done)); rfl))); done)))
   | (apply V.regd; (focus ((repeat (first
   | exact RO.nil
   | (apply RO.op; rfl; (simp only [h1, go_sem, Nat.reduceDiv, Nat.reduceMod, Nat.reduceAdd, Nat.reduceSub, Nat.reduceEqDiff, Nat.reduceLeDiff, Nat.reduceLT, Nat.reduceMul, reduceIte, Nat.reducePow, Int.reduceEq, List.toList_toArray]; (first | rfl | (apply ite_ok; (first | assumption | rfl | omega | (refine ⟨?_, ?_⟩ <;> omega)); rfl))); rfl)
   | (apply RO.opg; (first | (apply wantT; rfl; rfl; (simp only [Nat.reduceDiv, Nat.reduceMod, get_nth, nth_zero, nth_succ]; rfl)) | (apply wantF; rfl; rfl; (simp only [Nat.reduceDiv, Nat.reduceMod, get_nth, nth_zero, nth_succ]; rfl)) | (apply wantTg; rfl; rfl; (simp only [Nat.reduceDiv, Nat.reduceMod, get_nth, nth_zero, nth_succ]; rfl)) | (apply wantFg; rfl; rfl; (simp only [Nat.reduceDiv, Nat.reduceMod, get_nth, nth_zero, nth_succ]; rfl)) | (apply wantU; rfl; rfl; (simp only [Nat.reduceDiv, Nat.reduceMod, get_nth, nth_zero, nth_succ]; rfl))); (intro h; (try simp only [Bool.and_eq_true, Bool.not_eq_true', Bool.not_eq_eq_eq_not, Bool.not_true] at h); simp only [h, h1, go_sem, Nat.reduceDiv, Nat.reduceMod, Nat.reduceAdd, Nat.reduceSub, Nat.reduceEqDiff, Nat.reduceLeDiff, Nat.reduceLT, Nat.reduceMul, reduceIte, Nat.reducePow, Int.reduceEq, List.toList_toArray]; (first | rfl | (apply ite_ok; (first | assumption | rfl | omega | (refine ⟨?_, ?_⟩ <;> omega)); rfl))); rfl)
   | (apply RO.call; exact want0 rfl; (simp only [h1, go_sem, Nat.reduceDiv, Nat.reduceMod, Nat.reduceAdd, Nat.reduceSub, Nat.reduceEqDiff, Nat.reduceLeDiff, Nat.reduceLT, Nat.reduceMul, reduceIte, Nat.reducePow, Int.reduceEq, List.toList_toArray]; rfl); fail; rfl)
   | (apply RO.callg; (first | (apply wantT; rfl; rfl; (simp only [Nat.reduceDiv, Nat.reduceMod, get_nth, nth_zero, nth_succ]; rfl)) | (apply wantF; rfl; rfl; (simp only [Nat.reduceDiv, Nat.reduceMod, get_nth, nth_zero, nth_succ]; rfl)) | (apply wantTg; rfl; rfl; (simp only [Nat.reduceDiv, Nat.reduceMod, get_nth, nth_zero, nth_succ]; rfl)) | (apply wantFg; rfl; rfl; (simp only [Nat.reduceDiv, Nat.reduceMod, get_nth, nth_zero, nth_succ]; rfl)) | (apply wantU; rfl; rfl; (simp only [Nat.reduceDiv, Nat.reduceMod, get_nth, nth_zero, nth_succ]; rfl))); (intro h; (try simp only [Bool.and_eq_true, Bool.not_eq_true', Bool.not_eq_eq_eq_not, Bool.not_true] at h); simp only [h, h1, go_sem, Nat.reduceDiv, Nat.reduceMod, Nat.reduceAdd, Nat.reduceSub, Nat.reduceEqDiff, Nat.reduceLeDiff, Nat.reduceLT, Nat.reduceMul, reduceIte, Nat.reducePow, Int.reduceEq, List.toList_toArray]; rfl); (intro h; (try simp only [Bool.and_eq_true, Bool.not_eq_true', Bool.not_eq_eq_eq_not, Bool.not_true] at h); fail); rfl)
   | (apply RO.no; apply wantNo; (first | (apply wantT; rfl; rfl; (simp only [Nat.reduceDiv, Nat.reduceMod, get_nth, nth_zero, nth_succ]; rfl)) | (apply wantF; rfl; rfl; (simp only [Nat.reduceDiv, Nat.reduceMod, get_nth, nth_zero, nth_succ]; rfl)) | (apply wantTg; rfl; rfl; (simp only [Nat.reduceDiv, Nat.reduceMod, get_nth, nth_zero, nth_succ]; rfl)) | (apply wantFg; rfl; rfl; (simp only [Nat.reduceDiv, Nat.reduceMod, get_nth, nth_zero, nth_succ]; rfl)) | (apply wantU; rfl; rfl; (simp only [Nat.reduceDiv, Nat.reduceMod, get_nth, nth_zero, nth_succ]; rfl))); (first | rfl | (simp only [h1, Bool.and_false, Bool.false_and, Bool.not_true, Bool.not_false, decide_true, decide_false, Bool.or_true, Bool.true_or, not_true_eq_false, not_false_eq_true, Bool.and_true, Bool.true_and]; done)); rfl))); done)); (focus kernel_rfl); (focus (first | (apply okPairs_kinds; (focus ((repeat (first | exact Kinds.nil | (apply Kinds.ro; (first | exact RoT.zero | exact RoT.rd | exact RoT.all | exact RoT.rdTr _ | assumption)) | apply Kinds.any)); done)); decide +kernel) | kernel_rfl)))
   | (refine V.cond rfl (fun h => ?_) (fun h => ?_) <;> (try simp only [decide_eq_true_eq, decide_eq_false_iff_not, Bool.and_eq_true, Bool.or_eq_true, Bool.and_eq_false_iff, Bool.or_eq_false_iff, Bool.not_eq_true', Bool.not_eq_false', Bool.not_true, Bool.not_false, Classical.not_not, Int.not_lt, Int.not_le, reduceCtorEq, not_true_eq_false, not_false_eq_true, decide_true, decide_false, Int.reduceEq, Int.reduceLT, Int.reduceLE] at h) <;> (try (exfalso; omega)))
   | (refine FnQ.normal (res0 Try.results51) rfl ?_; (try dsimp only))
   | (refine FnQ.ret (res0 Try.results51) rfl ?_; (try dsimp only))
   | (refine FnQ.ret (res1 Try.results51) (by simp only [Nat.reduceDiv, Nat.reduceMod, get_nth, nth_zero, nth_succ]; rfl) ?_; (try dsimp only))
   | (refine FnQ.ret (res2 Try.results51) (by simp only [Nat.reduceDiv, Nat.reduceMod, get_nth, nth_zero, nth_succ]; rfl) ?_; (try dsimp only))
   | (refine FnQ.retB (resc Try.results51) (by simp only [cellR_op, h1, go_sem, Nat.reduceDiv, Nat.reduceMod, Nat.reduceAdd, Nat.reduceSub, Nat.reduceEqDiff, Nat.reduceLeDiff, Nat.reduceLT, Nat.reduceMul, reduceIte, Nat.reducePow, Int.reduceEq, List.toList_toArray]; rfl) ?_; (try dsimp only))
   | (refine FnQ.retB (resct Try.results51) (by simp only [cellR_op, h1, go_sem, Nat.reduceDiv, Nat.reduceMod, Nat.reduceAdd, Nat.reduceSub, Nat.reduceEqDiff, Nat.reduceLeDiff, Nat.reduceLT, Nat.reduceMul, reduceIte, Nat.reducePow, Int.reduceEq, List.toList_toArray]; rfl) ?_; (try dsimp only)))
  · rw [wrap_u32'] at h
    have hn : 0 ≤ r ∧ r ≤ 127 := by omega
    have e1 : bytesL (enc r) = [[.v (.int .u8 r)]] := by
      rw [enc, if_pos (show signB r = true from decide_eq_true (by omega)), if_pos (by omega)]; rfl
    rw [wrap_u8' r, show r % 256 = r by omega]
    obtain ⟨_, h2, h3, _⟩ := hap [[.v (.int .u8 r)]] 1 rfl (by decide) (by decide)
    exact ⟨h2, by rw [bytesL_append, e1]; exact h3⟩
  · rw [wrap_u32'] at h
    obtain ⟨R', H1, ⟨h2, h3⟩, hc⟩ := WC.eff (ys := ys) (lo := lo) rfl (appendNon_wc hlo hF hx r hr (by omega) hb)
    repeat' (first
     | apply V.sq
     | apply V.bl
     | apply V.sc
     | apply V.skip
     | apply V.label
     | apply V.ret
     | apply V.exit
     | apply SeqQ.normal
     | apply SeqQ.ret
     | apply SeqQ.exit
     | apply BlockQ.normal
     | apply BlockQ.ret
     | apply BlockQ.here
     | (apply BlockQ.there; decide)
     | apply LoopS.ret
     | apply LoopS.exit
     | apply LoopF.ret
     | apply LoopF.exit
     | (apply V.reg; (focus ((repeat (first
     | exact RO.nil
     | (apply RO.op; rfl; (simp only [h1, go_sem, Nat.reduceDiv, Nat.reduceMod, Nat.reduceAdd, Nat.reduceSub, Nat.reduceEqDiff, Nat.reduceLeDiff, Nat.reduceLT, Nat.reduceMul, reduceIte, Nat.reducePow, Int.reduceEq, List.toList_toArray]; (first | rfl | (apply ite_ok; (first | assumption | rfl | omega | (refine ⟨?_, ?_⟩ <;> omega)); rfl))); rfl)
     | (apply RO.opg; (first | (apply wantT; rfl; rfl; (simp only [Nat.reduceDiv, Nat.reduceMod, get_nth, nth_zero, nth_succ]; rfl)) | (apply wantF; rfl; rfl; (simp only [Nat.reduceDiv, Nat.reduceMod, get_nth, nth_zero, nth_succ]; rfl)) | (apply wantTg; rfl; rfl; (simp only [Nat.reduceDiv, Nat.reduceMod, get_nth, nth_zero, nth_succ]; rfl)) | (apply wantFg; rfl; rfl; (simp only [Nat.reduceDiv, Nat.reduceMod, get_nth, nth_zero, nth_succ]; rfl)) | (apply wantU; rfl; rfl; (simp only [Nat.reduceDiv, Nat.reduceMod, get_nth, nth_zero, nth_succ]; rfl))); (intro h; (try simp only [Bool.and_eq_true, Bool.not_eq_true', Bool.not_eq_eq_eq_not, Bool.not_true] at h); simp only [h, h1, go_sem, Nat.reduceDiv, Nat.reduceMod, Nat.reduceAdd, Nat.reduceSub, Nat.reduceEqDiff, Nat.reduceLeDiff, Nat.reduceLT, Nat.reduceMul, reduceIte, Nat.reducePow, Int.reduceEq, List.toList_toArray]; (first | rfl | (apply ite_ok; (first | assumption | rfl | omega | (refine ⟨?_, ?_⟩ <;> omega)); rfl))); rfl)
     | (apply RO.call; exact want0 rfl; (simp only [h1, go_sem, Nat.reduceDiv, Nat.reduceMod, Nat.reduceAdd, Nat.reduceSub, Nat.reduceEqDiff, Nat.reduceLeDiff, Nat.reduceLT, Nat.reduceMul, reduceIte, Nat.reducePow, Int.reduceEq, List.toList_toArray]; rfl); (first | (apply hc <;> (first | assumption | rfl | omega | (refine ⟨?_, ?_⟩ <;> omega)))); rfl)
     | (apply RO.callg; (first | (apply wantT; rfl; rfl; (simp only [Nat.reduceDiv, Nat.reduceMod, get_nth, nth_zero, nth_succ]; rfl)) | (apply wantF; rfl; rfl; (simp only [Nat.reduceDiv, Nat.reduceMod, get_nth, nth_zero, nth_succ]; rfl)) | (apply wantTg; rfl; rfl; (simp only [Nat.reduceDiv, Nat.reduceMod, get_nth, nth_zero, nth_succ]; rfl)) | (apply wantFg; rfl; rfl; (simp only [Nat.reduceDiv, Nat.reduceMod, get_nth, nth_zero, nth_succ]; rfl)) | (apply wantU; rfl; rfl; (simp only [Nat.reduceDiv, Nat.reduceMod, get_nth, nth_zero, nth_succ]; rfl))); (intro h; (try simp only [Bool.and_eq_true, Bool.not_eq_true', Bool.not_eq_eq_eq_not, Bool.not_true] at h); simp only [h, h1, go_sem, Nat.reduceDiv, Nat.reduceMod, Nat.reduceAdd, Nat.reduceSub, Nat.reduceEqDiff, Nat.reduceLeDiff, Nat.reduceLT, Nat.reduceMul, reduceIte, Nat.reducePow, Int.reduceEq, List.toList_toArray]; rfl); (intro h; (try simp only [Bool.and_eq_true, Bool.not_eq_true', Bool.not_eq_eq_eq_not, Bool.not_true] at h); (first | (apply hc <;> (first | assumption | rfl | omega | (refine ⟨?_, ?_⟩ <;> omega))))); rfl)
     | (apply RO.no; apply wantNo; (first | (apply wantT; rfl; rfl; (simp only [Nat.reduceDiv, Nat.reduceMod, get_nth, nth_zero, nth_succ]; rfl)) | (apply wantF; rfl; rfl; (simp only [Nat.reduceDiv, Nat.reduceMod, get_nth, nth_zero, nth_succ]; rfl)) | (apply wantTg; rfl; rfl; (simp only [Nat.reduceDiv, Nat.reduceMod, get_nth, nth_zero, nth_succ]; rfl)) | (apply wantFg; rfl; rfl; (simp only [Nat.reduceDiv, Nat.reduceMod, get_nth, nth_zero, nth_succ]; rfl)) | (apply wantU; rfl; rfl; (simp only [Nat.reduceDiv, Nat.reduceMod, get_nth, nth_zero, nth_succ]; rfl))); (first | rfl | (simp only [h1, Bool.and_false, Bool.false_and, Bool.not_true, Bool.not_false, decide_true, decide_false, Bool.or_true, Bool.true_or, not_true_eq_false, not_false_eq_true, Bool.and_true, Bool.true_and]; done)); rfl))); done)))
     | (apply V.regd; (focus ((repeat (first
     | exact RO.nil
     | (apply RO.op; rfl; (simp only [h1, go_sem, Nat.reduceDiv, Nat.reduceMod, Nat.reduceAdd, Nat.reduceSub, Nat.reduceEqDiff, Nat.reduceLeDiff, Nat.reduceLT, Nat.reduceMul, reduceIte, Nat.reducePow, Int.reduceEq, List.toList_toArray]; (first | rfl | (apply ite_ok; (first | assumption | rfl | omega | (refine ⟨?_, ?_⟩ <;> omega)); rfl))); rfl)
     | (apply RO.opg; (first | (apply wantT; rfl; rfl; (simp only [Nat.reduceDiv, Nat.reduceMod, get_nth, nth_zero, nth_succ]; rfl)) | (apply wantF; rfl; rfl; (simp only [Nat.reduceDiv, Nat.reduceMod, get_nth, nth_zero, nth_succ]; rfl)) | (apply wantTg; rfl; rfl; (simp only [Nat.reduceDiv, Nat.reduceMod, get_nth, nth_zero, nth_succ]; rfl)) | (apply wantFg; rfl; rfl; (simp only [Nat.reduceDiv, Nat.reduceMod, get_nth, nth_zero, nth_succ]; rfl)) | (apply wantU; rfl; rfl; (simp only [Nat.reduceDiv, Nat.reduceMod, get_nth, nth_zero, nth_succ]; rfl))); (intro h; (try simp only [Bool.and_eq_true, Bool.not_eq_true', Bool.not_eq_eq_eq_not, Bool.not_true] at h); simp only [h, h1, go_sem, Nat.reduceDiv, Nat.reduceMod, Nat.reduceAdd, Nat.reduceSub, Nat.reduceEqDiff, Nat.reduceLeDiff, Nat.reduceLT, Nat.reduceMul, reduceIte, Nat.reducePow, Int.reduceEq, List.toList_toArray]; (first | rfl | (apply ite_ok; (first | assumption | rfl | omega | (refine ⟨?_, ?_⟩ <;> omega)); rfl))); rfl)
     | (apply RO.call; exact want0 rfl; (simp only [h1, go_sem, Nat.reduceDiv, Nat.reduceMod, Nat.reduceAdd, Nat.reduceSub, Nat.reduceEqDiff, Nat.reduceLeDiff, Nat.reduceLT, Nat.reduceMul, reduceIte, Nat.reducePow, Int.reduceEq, List.toList_toArray]; rfl); (first | (apply hc <;> (first | assumption | rfl | omega | (refine ⟨?_, ?_⟩ <;> omega)))); rfl)
     | (apply RO.callg; (first | (apply wantT; rfl; rfl; (simp only [Nat.reduceDiv, Nat.reduceMod, get_nth, nth_zero, nth_succ]; rfl)) | (apply wantF; rfl; rfl; (simp only [Nat.reduceDiv, Nat.reduceMod, get_nth, nth_zero, nth_succ]; rfl)) | (apply wantTg; rfl; rfl; (simp only [Nat.reduceDiv, Nat.reduceMod, get_nth, nth_zero, nth_succ]; rfl)) | (apply wantFg; rfl; rfl; (simp only [Nat.reduceDiv, Nat.reduceMod, get_nth, nth_zero, nth_succ]; rfl)) | (apply wantU; rfl; rfl; (simp only [Nat.reduceDiv, Nat.reduceMod, get_nth, nth_zero, nth_succ]; rfl))); (intro h; (try simp only [Bool.and_eq_true, Bool.not_eq_true', Bool.not_eq_eq_eq_not, Bool.not_true] at h); simp only [h, h1, go_sem, Nat.reduceDiv, Nat.reduceMod, Nat.reduceAdd, Nat.reduceSub, Nat.reduceEqDiff, Nat.reduceLeDiff, Nat.reduceLT, Nat.reduceMul, reduceIte, Nat.reducePow, Int.reduceEq, List.toList_toArray]; rfl); (intro h; (try simp only [Bool.and_eq_true, Bool.not_eq_true', Bool.not_eq_eq_eq_not, Bool.not_true] at h); (first | (apply hc <;> (first | assumption | rfl | omega | (refine ⟨?_, ?_⟩ <;> omega))))); rfl)
     | (apply RO.no; apply wantNo; (first | (apply wantT; rfl; rfl; (simp only [Nat.reduceDiv, Nat.reduceMod, get_nth, nth_zero, nth_succ]; rfl)) | (apply wantF; rfl; rfl; (simp only [Nat.reduceDiv, Nat.reduceMod, get_nth, nth_zero, nth_succ]; rfl)) | (apply wantTg; rfl; rfl; (simp only [Nat.reduceDiv, Nat.reduceMod, get_nth, nth_zero, nth_succ]; rfl)) | (apply wantFg; rfl; rfl; (simp only [Nat.reduceDiv, Nat.reduceMod, get_nth, nth_zero, nth_succ]; rfl)) | (apply wantU; rfl; rfl; (simp only [Nat.reduceDiv, Nat.reduceMod, get_nth, nth_zero, nth_succ]; rfl))); (first | rfl | (simp only [h1, Bool.and_false, Bool.false_and, Bool.not_true, Bool.not_false, decide_true, decide_false, Bool.or_true, Bool.true_or, not_true_eq_false, not_false_eq_true, Bool.and_true, Bool.true_and]; done)); rfl))); done)); (focus kernel_rfl); (focus (first | (apply okPairs_kinds; (focus ((repeat (first | exact Kinds.nil | (apply Kinds.ro; (first | exact RoT.zero | exact RoT.rd | exact RoT.all | exact RoT.rdTr _ | assumption)) | apply Kinds.any)); done)); decide +kernel) | kernel_rfl)))
     | (refine V.cond rfl (fun h => ?_) (fun h => ?_) <;> (try simp only [decide_eq_true_eq, decide_eq_false_iff_not, Bool.and_eq_true, Bool.or_eq_true, Bool.and_eq_false_iff, Bool.or_eq_false_iff, Bool.not_eq_true', Bool.not_eq_false', Bool.not_true, Bool.not_false, Classical.not_not, Int.not_lt, Int.not_le, reduceCtorEq, not_true_eq_false, not_false_eq_true, decide_true, decide_false, Int.reduceEq, Int.reduceLT, Int.reduceLE] at h) <;> (try (exfalso; omega)))
     | (refine FnQ.normal (res0 Try.results51) rfl ?_; (try dsimp only))
     | (refine FnQ.ret (res0 Try.results51) rfl ?_; (try dsimp only))
     | (refine FnQ.ret (res1 Try.results51) (by simp only [Nat.reduceDiv, Nat.reduceMod, get_nth, nth_zero, nth_succ]; rfl) ?_; (try dsimp only))
     | (refine FnQ.ret (res2 Try.results51) (by simp only [Nat.reduceDiv, Nat.reduceMod, get_nth, nth_zero, nth_succ]; rfl) ?_; (try dsimp only))
     | (refine FnQ.retB (resc Try.results51) (by simp only [cellR_op, h1, go_sem, Nat.reduceDiv, Nat.reduceMod, Nat.reduceAdd, Nat.reduceSub, Nat.reduceEqDiff, Nat.reduceLeDiff, Nat.reduceLT, Nat.reduceMul, reduceIte, Nat.reducePow, Int.reduceEq, List.toList_toArray]; rfl) ?_; (try dsimp only))
     | (refine FnQ.retB (resct Try.results51) (by simp only [cellR_op, h1, go_sem, Nat.reduceDiv, Nat.reduceMod, Nat.reduceAdd, Nat.reduceSub, Nat.reduceEqDiff, Nat.reduceLeDiff, Nat.reduceLT, Nat.reduceMul, reduceIte, Nat.reducePow, Int.reduceEq, List.toList_toArray]; rfl) ?_; (try dsimp only)))
    exact ⟨h2, h3⟩
theorem enc_len (r : Int) : 1 ≤ (enc r).length ∧ (enc r).length ≤ 4 := by
  unfold enc
  split
  · split
    · simp
    · split
      · simp
      · split <;> simp
  · simp
theorem utf8_len (t : List Int) : (utf8 t).length ≤ 4 * t.length := by
  induction t with
  | nil => simp [utf8]
  | cons c t ih =>
    have := (enc_len c).2
    simp only [utf8, List.flatMap_cons, List.length_append, List.length_cons] at ih ⊢
    omega
theorem utf8_snoc (t : List Int) (r : Int) : utf8 (t ++ [r]) = utf8 t ++ enc r := by simp [utf8]
theorem put_three (t : List Int) (r : Int) : put 3 t r = if r = 7 then (0, t, oscEv t) else if r = 27 then (4, t, none) else (3, t ++ [r], none) := by
  unfold put
  rw [if_neg (by omega), if_neg (by omega), if_neg (by omega), if_neg (by omega)]
theorem oscs_wc (hlo : ∀ k, F k → lo ≤ k) (hFl : ∀ k, F k → k < H.next) {A X : AV} {any sp : Bool} (hP : PP H F n 3 t A any sp X) (r : Int) (hr : -2147483648 ≤ r ∧ r ≤ 2147483647) (ht : t.length < 2 ^ 20) : WC EA ys lo 32 [.op n 0 0 0, .v (.int .i32 r)] H fun R H' => Turn F H H' ∧ (∃ A any sp X, PP H' (grow F H H') n (put 3 t r).1 (put 3 t r).2.1 A any sp X) ∧ EvR H' (grow F H H') R (put 3 t r).2.2 := by
  obtain ⟨h1, h2⟩ := hP.osc (.inl rfl)
  have hb := hP.blk
  have hln := hlo n hP.own
  have hx := hP.cx
  unfold pBlk at hb
  obtain ⟨R, H1, ⟨hT, ⟨X', hP'⟩, hE⟩, hc⟩ := WC.eff (ys := ys) (lo := lo) rfl (told_wc hlo hP (.inl rfl))
  refine WC.enter Try.func32 rfl (Nat.le_of_ble_eq_true rfl) (by simp only [Slots.of, Try.ntmps32, Nat.reduceAdd, Nat.reduceDiv, rows8P, row8]; rfl) ?_
  repeat' (first
   | apply V.sq
   | apply V.bl
   | apply V.sc
   | apply V.skip
   | apply V.label
   | apply V.ret
   | apply V.exit
   | apply SeqQ.normal
   | apply SeqQ.ret
   | apply SeqQ.exit
   | apply BlockQ.normal
   | apply BlockQ.ret
   | apply BlockQ.here
   | (apply BlockQ.there; decide)
   | apply LoopS.ret
   | apply LoopS.exit
   | apply LoopF.ret
   | apply LoopF.exit
   | (apply V.reg; (focus ((repeat (first
   | exact RO.nil
   | (apply RO.op; rfl; (simp only [hb, hln, hx, go_sem, Nat.reduceDiv, Nat.reduceMod, Nat.reduceAdd, Nat.reduceSub, Nat.reduceEqDiff, Nat.reduceLeDiff, Nat.reduceLT, Nat.reduceMul, reduceIte, Nat.reducePow, Int.reduceEq, List.toList_toArray]; (first | rfl | (apply ite_ok; (first | assumption | rfl | omega | (refine ⟨?_, ?_⟩ <;> omega)); rfl))); rfl)
   | (apply RO.opg; (first | (apply wantT; rfl; rfl; (simp only [Nat.reduceDiv, Nat.reduceMod, get_nth, nth_zero, nth_succ]; rfl)) | (apply wantF; rfl; rfl; (simp only [Nat.reduceDiv, Nat.reduceMod, get_nth, nth_zero, nth_succ]; rfl)) | (apply wantTg; rfl; rfl; (simp only [Nat.reduceDiv, Nat.reduceMod, get_nth, nth_zero, nth_succ]; rfl)) | (apply wantFg; rfl; rfl; (simp only [Nat.reduceDiv, Nat.reduceMod, get_nth, nth_zero, nth_succ]; rfl)) | (apply wantU; rfl; rfl; (simp only [Nat.reduceDiv, Nat.reduceMod, get_nth, nth_zero, nth_succ]; rfl))); (intro h; (try simp only [Bool.and_eq_true, Bool.not_eq_true', Bool.not_eq_eq_eq_not, Bool.not_true] at h); simp only [h, hb, hln, hx, go_sem, Nat.reduceDiv, Nat.reduceMod, Nat.reduceAdd, Nat.reduceSub, Nat.reduceEqDiff, Nat.reduceLeDiff, Nat.reduceLT, Nat.reduceMul, reduceIte, Nat.reducePow, Int.reduceEq, List.toList_toArray]; (first | rfl | (apply ite_ok; (first | assumption | rfl | omega | (refine ⟨?_, ?_⟩ <;> omega)); rfl))); rfl)
   | (apply RO.call; exact want0 rfl; (simp only [hb, hln, hx, go_sem, Nat.reduceDiv, Nat.reduceMod, Nat.reduceAdd, Nat.reduceSub, Nat.reduceEqDiff, Nat.reduceLeDiff, Nat.reduceLT, Nat.reduceMul, reduceIte, Nat.reducePow, Int.reduceEq, List.toList_toArray]; rfl); (first | (apply hc <;> (first | assumption | rfl | omega | (refine ⟨?_, ?_⟩ <;> omega)))); rfl)
   | (apply RO.callg; (first | (apply wantT; rfl; rfl; (simp only [Nat.reduceDiv, Nat.reduceMod, get_nth, nth_zero, nth_succ]; rfl)) | (apply wantF; rfl; rfl; (simp only [Nat.reduceDiv, Nat.reduceMod, get_nth, nth_zero, nth_succ]; rfl)) | (apply wantTg; rfl; rfl; (simp only [Nat.reduceDiv, Nat.reduceMod, get_nth, nth_zero, nth_succ]; rfl)) | (apply wantFg; rfl; rfl; (simp only [Nat.reduceDiv, Nat.reduceMod, get_nth, nth_zero, nth_succ]; rfl)) | (apply wantU; rfl; rfl; (simp only [Nat.reduceDiv, Nat.reduceMod, get_nth, nth_zero, nth_succ]; rfl))); (intro h; (try simp only [Bool.and_eq_true, Bool.not_eq_true', Bool.not_eq_eq_eq_not, Bool.not_true] at h); simp only [h, hb, hln, hx, go_sem, Nat.reduceDiv, Nat.reduceMod, Nat.reduceAdd, Nat.reduceSub, Nat.reduceEqDiff, Nat.reduceLeDiff, Nat.reduceLT, Nat.reduceMul, reduceIte, Nat.reducePow, Int.reduceEq, List.toList_toArray]; rfl); (intro h; (try simp only [Bool.and_eq_true, Bool.not_eq_true', Bool.not_eq_eq_eq_not, Bool.not_true] at h); (first | (apply hc <;> (first | assumption | rfl | omega | (refine ⟨?_, ?_⟩ <;> omega))))); rfl)
   | (apply RO.no; apply wantNo; (first | (apply wantT; rfl; rfl; (simp only [Nat.reduceDiv, Nat.reduceMod, get_nth, nth_zero, nth_succ]; rfl)) | (apply wantF; rfl; rfl; (simp only [Nat.reduceDiv, Nat.reduceMod, get_nth, nth_zero, nth_succ]; rfl)) | (apply wantTg; rfl; rfl; (simp only [Nat.reduceDiv, Nat.reduceMod, get_nth, nth_zero, nth_succ]; rfl)) | (apply wantFg; rfl; rfl; (simp only [Nat.reduceDiv, Nat.reduceMod, get_nth, nth_zero, nth_succ]; rfl)) | (apply wantU; rfl; rfl; (simp only [Nat.reduceDiv, Nat.reduceMod, get_nth, nth_zero, nth_succ]; rfl))); (first | rfl | (simp only [hb, hln, hx, Bool.and_false, Bool.false_and, Bool.not_true, Bool.not_false, decide_true, decide_false, Bool.or_true, Bool.true_or, not_true_eq_false, not_false_eq_true, Bool.and_true, Bool.true_and]; done)); rfl))); done)))
   | (apply V.regd; (focus ((repeat (first
   | exact RO.nil
   | (apply RO.op; rfl; (simp only [hb, hln, hx, go_sem, Nat.reduceDiv, Nat.reduceMod, Nat.reduceAdd, Nat.reduceSub, Nat.reduceEqDiff, Nat.reduceLeDiff, Nat.reduceLT, Nat.reduceMul, reduceIte, Nat.reducePow, Int.reduceEq, List.toList_toArray]; (first | rfl | (apply ite_ok; (first | assumption | rfl | omega | (refine ⟨?_, ?_⟩ <;> omega)); rfl))); rfl)
   | (apply RO.opg; (first | (apply wantT; rfl; rfl; (simp only [Nat.reduceDiv, Nat.reduceMod, get_nth, nth_zero, nth_succ]; rfl)) | (apply wantF; rfl; rfl; (simp only [Nat.reduceDiv, Nat.reduceMod, get_nth, nth_zero, nth_succ]; rfl)) | (apply wantTg; rfl; rfl; (simp only [Nat.reduceDiv, Nat.reduceMod, get_nth, nth_zero, nth_succ]; rfl)) | (apply wantFg; rfl; rfl; (simp only [Nat.reduceDiv, Nat.reduceMod, get_nth, nth_zero, nth_succ]; rfl)) | (apply wantU; rfl; rfl; (simp only [Nat.reduceDiv, Nat.reduceMod, get_nth, nth_zero, nth_succ]; rfl))); (intro h; (try simp only [Bool.and_eq_true, Bool.not_eq_true', Bool.not_eq_eq_eq_not, Bool.not_true] at h); simp only [h, hb, hln, hx, go_sem, Nat.reduceDiv, Nat.reduceMod, Nat.reduceAdd, Nat.reduceSub, Nat.reduceEqDiff, Nat.reduceLeDiff, Nat.reduceLT, Nat.reduceMul, reduceIte, Nat.reducePow, Int.reduceEq, List.toList_toArray]; (first | rfl | (apply ite_ok; (first | assumption | rfl | omega | (refine ⟨?_, ?_⟩ <;> omega)); rfl))); rfl)
   | (apply RO.call; exact want0 rfl; (simp only [hb, hln, hx, go_sem, Nat.reduceDiv, Nat.reduceMod, Nat.reduceAdd, Nat.reduceSub, Nat.reduceEqDiff, Nat.reduceLeDiff, Nat.reduceLT, Nat.reduceMul, reduceIte, Nat.reducePow, Int.reduceEq, List.toList_toArray]; rfl); (first | (apply hc <;> (first | assumption | rfl | omega | (refine ⟨?_, ?_⟩ <;> omega)))); rfl)
   | (apply RO.callg; (first | (apply wantT; rfl; rfl; (simp only [Nat.reduceDiv, Nat.reduceMod, get_nth, nth_zero, nth_succ]; rfl)) | (apply wantF; rfl; rfl; (simp only [Nat.reduceDiv, Nat.reduceMod, get_nth, nth_zero, nth_succ]; rfl)) | (apply wantTg; rfl; rfl; (simp only [Nat.reduceDiv, Nat.reduceMod, get_nth, nth_zero, nth_succ]; rfl)) | (apply wantFg; rfl; rfl; (simp only [Nat.reduceDiv, Nat.reduceMod, get_nth, nth_zero, nth_succ]; rfl)) | (apply wantU; rfl; rfl; (simp only [Nat.reduceDiv, Nat.reduceMod, get_nth, nth_zero, nth_succ]; rfl))); (intro h; (try simp only [Bool.and_eq_true, Bool.not_eq_true', Bool.not_eq_eq_eq_not, Bool.not_true] at h); simp only [h, hb, hln, hx, go_sem, Nat.reduceDiv, Nat.reduceMod, Nat.reduceAdd, Nat.reduceSub, Nat.reduceEqDiff, Nat.reduceLeDiff, Nat.reduceLT, Nat.reduceMul, reduceIte, Nat.reducePow, Int.reduceEq, List.toList_toArray]; rfl); (intro h; (try simp only [Bool.and_eq_true, Bool.not_eq_true', Bool.not_eq_eq_eq_not, Bool.not_true] at h); (first | (apply hc <;> (first | assumption | rfl | omega | (refine ⟨?_, ?_⟩ <;> omega))))); rfl)
   | (apply RO.no; apply wantNo; (first | (apply wantT; rfl; rfl; (simp only [Nat.reduceDiv, Nat.reduceMod, get_nth, nth_zero, nth_succ]; rfl)) | (apply wantF; rfl; rfl; (simp only [Nat.reduceDiv, Nat.reduceMod, get_nth, nth_zero, nth_succ]; rfl)) | (apply wantTg; rfl; rfl; (simp only [Nat.reduceDiv, Nat.reduceMod, get_nth, nth_zero, nth_succ]; rfl)) | (apply wantFg; rfl; rfl; (simp only [Nat.reduceDiv, Nat.reduceMod, get_nth, nth_zero, nth_succ]; rfl)) | (apply wantU; rfl; rfl; (simp only [Nat.reduceDiv, Nat.reduceMod, get_nth, nth_zero, nth_succ]; rfl))); (first | rfl | (simp only [hb, hln, hx, Bool.and_false, Bool.false_and, Bool.not_true, Bool.not_false, decide_true, decide_false, Bool.or_true, Bool.true_or, not_true_eq_false, not_false_eq_true, Bool.and_true, Bool.true_and]; done)); rfl))); done)); (focus kernel_rfl); (focus (first | (apply okPairs_kinds; (focus ((repeat (first | exact Kinds.nil | (apply Kinds.ro; (first | exact RoT.zero | exact RoT.rd | exact RoT.all | exact RoT.rdTr _ | assumption)) | apply Kinds.any)); done)); decide +kernel) | kernel_rfl)))
   | (refine V.cond rfl (fun h => ?_) (fun h => ?_) <;> (try simp only [decide_eq_true_eq, decide_eq_false_iff_not, Bool.and_eq_true, Bool.or_eq_true, Bool.and_eq_false_iff, Bool.or_eq_false_iff, Bool.not_eq_true', Bool.not_eq_false', Bool.not_true, Bool.not_false, Classical.not_not, Int.not_lt, Int.not_le, reduceCtorEq, not_true_eq_false, not_false_eq_true, decide_true, decide_false, Int.reduceEq, Int.reduceLT, Int.reduceLE] at h) <;> (try (exfalso; omega)))
   | (refine FnQ.normal (res0 Try.results32) rfl ?_; (try dsimp only))
   | (refine FnQ.ret (res0 Try.results32) rfl ?_; (try dsimp only))
   | (refine FnQ.ret (res1 Try.results32) (by simp only [Nat.reduceDiv, Nat.reduceMod, get_nth, nth_zero, nth_succ]; rfl) ?_; (try dsimp only))
   | (refine FnQ.ret (res2 Try.results32) (by simp only [Nat.reduceDiv, Nat.reduceMod, get_nth, nth_zero, nth_succ]; rfl) ?_; (try dsimp only))
   | (refine FnQ.retB (resc Try.results32) (by simp only [cellR_op, hb, hln, hx, go_sem, Nat.reduceDiv, Nat.reduceMod, Nat.reduceAdd, Nat.reduceSub, Nat.reduceEqDiff, Nat.reduceLeDiff, Nat.reduceLT, Nat.reduceMul, reduceIte, Nat.reducePow, Int.reduceEq, List.toList_toArray]; rfl) ?_; (try dsimp only))
   | (refine FnQ.retB (resct Try.results32) (by simp only [cellR_op, hb, hln, hx, go_sem, Nat.reduceDiv, Nat.reduceMod, Nat.reduceAdd, Nat.reduceSub, Nat.reduceEqDiff, Nat.reduceLeDiff, Nat.reduceLT, Nat.reduceMul, reduceIte, Nat.reducePow, Int.reduceEq, List.toList_toArray]; rfl) ?_; (try dsimp only)))
  · subst h
    rw [put_three, if_pos rfl]
    exact ⟨hT, ⟨_, _, _, _, hP'⟩, hE⟩
  · subst h
    rw [put_three, if_neg (by decide), if_pos rfl]
    exact ⟨(Turn.refl F H).set n _ (.inl hP.own), ⟨_, _, _, _, hP.st 4 (.inr (.inr ⟨rfl, rfl, rfl⟩)) growF⟩, rfl⟩
  · have h3 := h2 h
    obtain ⟨h4, h5⟩ := h3.self
    have hX : ¬ nameOf X n := fun hn => by
      obtain ⟨_, _, e, es, hg⟩ := h5 n hn
      rw [hb] at hg; cases hg
    have hu := utf8_len t
    obtain ⟨R2, H2, ⟨hT2, hO2⟩, hc2⟩ := WC.eff (ys := ys) (lo := lo) rfl (appendRune_wc (fun k hk => hlo k (h5 k hk).1) (fun k hk => (h5 k hk).2.1) h4 r hr (by omega))
    have hb2 : H2.get n = some (pBlk 3 A any sp X) := by rw [hT2.keep n hP.lt hX, hb]
    unfold pBlk at hb2
    have hO3 : OwnS H2 (grow F H H2) 5 1 R2 (bytesL (utf8 t ++ enc r)) := hO2.mono fun k hk => hk.elim (fun hk => .inl (h5 k hk).1) .inr
    have hx2 := cells_SlH hO3.slh
    have hl2 := fun b => len_SlH EA lo 26 3 ((hO3.set hb2 (Nat.ne_of_beq_eq_false rfl) b).slh) (by kernel_rfl)
    repeat' (first
     | apply V.sq
     | apply V.bl
     | apply V.sc
     | apply V.skip
     | apply V.label
     | apply V.ret
     | apply V.exit
     | apply SeqQ.normal
     | apply SeqQ.ret
     | apply SeqQ.exit
     | apply BlockQ.normal
     | apply BlockQ.ret
     | apply BlockQ.here
     | (apply BlockQ.there; decide)
     | apply LoopS.ret
     | apply LoopS.exit
     | apply LoopF.ret
     | apply LoopF.exit
     | (apply V.reg; (focus ((repeat (first
     | exact RO.nil
     | (apply RO.op; rfl; (simp only [hb, hb2, hln, hx, hx2, hl2, bytesL_len, go_sem, Nat.reduceDiv, Nat.reduceMod, Nat.reduceAdd, Nat.reduceSub, Nat.reduceEqDiff, Nat.reduceLeDiff, Nat.reduceLT, Nat.reduceMul, reduceIte, Nat.reducePow, Int.reduceEq, List.toList_toArray]; (first | rfl | (apply ite_ok; (first | assumption | rfl | omega | (refine ⟨?_, ?_⟩ <;> omega)); rfl))); rfl)
     | (apply RO.opg; (first | (apply wantT; rfl; rfl; (simp only [Nat.reduceDiv, Nat.reduceMod, get_nth, nth_zero, nth_succ]; rfl)) | (apply wantF; rfl; rfl; (simp only [Nat.reduceDiv, Nat.reduceMod, get_nth, nth_zero, nth_succ]; rfl)) | (apply wantTg; rfl; rfl; (simp only [Nat.reduceDiv, Nat.reduceMod, get_nth, nth_zero, nth_succ]; rfl)) | (apply wantFg; rfl; rfl; (simp only [Nat.reduceDiv, Nat.reduceMod, get_nth, nth_zero, nth_succ]; rfl)) | (apply wantU; rfl; rfl; (simp only [Nat.reduceDiv, Nat.reduceMod, get_nth, nth_zero, nth_succ]; rfl))); (intro h; (try simp only [Bool.and_eq_true, Bool.not_eq_true', Bool.not_eq_eq_eq_not, Bool.not_true] at h); simp only [h, hb, hb2, hln, hx, hx2, hl2, bytesL_len, go_sem, Nat.reduceDiv, Nat.reduceMod, Nat.reduceAdd, Nat.reduceSub, Nat.reduceEqDiff, Nat.reduceLeDiff, Nat.reduceLT, Nat.reduceMul, reduceIte, Nat.reducePow, Int.reduceEq, List.toList_toArray]; (first | rfl | (apply ite_ok; (first | assumption | rfl | omega | (refine ⟨?_, ?_⟩ <;> omega)); rfl))); rfl)
     | (apply RO.call; exact want0 rfl; (simp only [hb, hb2, hln, hx, hx2, hl2, bytesL_len, go_sem, Nat.reduceDiv, Nat.reduceMod, Nat.reduceAdd, Nat.reduceSub, Nat.reduceEqDiff, Nat.reduceLeDiff, Nat.reduceLT, Nat.reduceMul, reduceIte, Nat.reducePow, Int.reduceEq, List.toList_toArray]; rfl); (first | (apply hc2 <;> (first | assumption | rfl | omega | (refine ⟨?_, ?_⟩ <;> omega)))); rfl)
     | (apply RO.callg; (first | (apply wantT; rfl; rfl; (simp only [Nat.reduceDiv, Nat.reduceMod, get_nth, nth_zero, nth_succ]; rfl)) | (apply wantF; rfl; rfl; (simp only [Nat.reduceDiv, Nat.reduceMod, get_nth, nth_zero, nth_succ]; rfl)) | (apply wantTg; rfl; rfl; (simp only [Nat.reduceDiv, Nat.reduceMod, get_nth, nth_zero, nth_succ]; rfl)) | (apply wantFg; rfl; rfl; (simp only [Nat.reduceDiv, Nat.reduceMod, get_nth, nth_zero, nth_succ]; rfl)) | (apply wantU; rfl; rfl; (simp only [Nat.reduceDiv, Nat.reduceMod, get_nth, nth_zero, nth_succ]; rfl))); (intro h; (try simp only [Bool.and_eq_true, Bool.not_eq_true', Bool.not_eq_eq_eq_not, Bool.not_true] at h); simp only [h, hb, hb2, hln, hx, hx2, hl2, bytesL_len, go_sem, Nat.reduceDiv, Nat.reduceMod, Nat.reduceAdd, Nat.reduceSub, Nat.reduceEqDiff, Nat.reduceLeDiff, Nat.reduceLT, Nat.reduceMul, reduceIte, Nat.reducePow, Int.reduceEq, List.toList_toArray]; rfl); (intro h; (try simp only [Bool.and_eq_true, Bool.not_eq_true', Bool.not_eq_eq_eq_not, Bool.not_true] at h); (first | (apply hc2 <;> (first | assumption | rfl | omega | (refine ⟨?_, ?_⟩ <;> omega))))); rfl)
     | (apply RO.no; apply wantNo; (first | (apply wantT; rfl; rfl; (simp only [Nat.reduceDiv, Nat.reduceMod, get_nth, nth_zero, nth_succ]; rfl)) | (apply wantF; rfl; rfl; (simp only [Nat.reduceDiv, Nat.reduceMod, get_nth, nth_zero, nth_succ]; rfl)) | (apply wantTg; rfl; rfl; (simp only [Nat.reduceDiv, Nat.reduceMod, get_nth, nth_zero, nth_succ]; rfl)) | (apply wantFg; rfl; rfl; (simp only [Nat.reduceDiv, Nat.reduceMod, get_nth, nth_zero, nth_succ]; rfl)) | (apply wantU; rfl; rfl; (simp only [Nat.reduceDiv, Nat.reduceMod, get_nth, nth_zero, nth_succ]; rfl))); (first | rfl | (simp only [hb, hb2, hln, hx, hx2, hl2, bytesL_len, Bool.and_false, Bool.false_and, Bool.not_true, Bool.not_false, decide_true, decide_false, Bool.or_true, Bool.true_or, not_true_eq_false, not_false_eq_true, Bool.and_true, Bool.true_and]; done)); rfl))); done)))
     | (apply V.regd; (focus ((repeat (first
     | exact RO.nil
     | (apply RO.op; rfl; (simp only [hb, hb2, hln, hx, hx2, hl2, bytesL_len, go_sem, Nat.reduceDiv, Nat.reduceMod, Nat.reduceAdd, Nat.reduceSub, Nat.reduceEqDiff, Nat.reduceLeDiff, Nat.reduceLT, Nat.reduceMul, reduceIte, Nat.reducePow, Int.reduceEq, List.toList_toArray]; (first | rfl | (apply ite_ok; (first | assumption | rfl | omega | (refine ⟨?_, ?_⟩ <;> omega)); rfl))); rfl)
     | (apply RO.opg; (first | (apply wantT; rfl; rfl; (simp only [Nat.reduceDiv, Nat.reduceMod, get_nth, nth_zero, nth_succ]; rfl)) | (apply wantF; rfl; rfl; (simp only [Nat.reduceDiv, Nat.reduceMod, get_nth, nth_zero, nth_succ]; rfl)) | (apply wantTg; rfl; rfl; (simp only [Nat.reduceDiv, Nat.reduceMod, get_nth, nth_zero, nth_succ]; rfl)) | (apply wantFg; rfl; rfl; (simp only [Nat.reduceDiv, Nat.reduceMod, get_nth, nth_zero, nth_succ]; rfl)) | (apply wantU; rfl; rfl; (simp only [Nat.reduceDiv, Nat.reduceMod, get_nth, nth_zero, nth_succ]; rfl))); (intro h; (try simp only [Bool.and_eq_true, Bool.not_eq_true', Bool.not_eq_eq_eq_not, Bool.not_true] at h); simp only [h, hb, hb2, hln, hx, hx2, hl2, bytesL_len, go_sem, Nat.reduceDiv, Nat.reduceMod, Nat.reduceAdd, Nat.reduceSub, Nat.reduceEqDiff, Nat.reduceLeDiff, Nat.reduceLT, Nat.reduceMul, reduceIte, Nat.reducePow, Int.reduceEq, List.toList_toArray]; (first | rfl | (apply ite_ok; (first | assumption | rfl | omega | (refine ⟨?_, ?_⟩ <;> omega)); rfl))); rfl)
     | (apply RO.call; exact want0 rfl; (simp only [hb, hb2, hln, hx, hx2, hl2, bytesL_len, go_sem, Nat.reduceDiv, Nat.reduceMod, Nat.reduceAdd, Nat.reduceSub, Nat.reduceEqDiff, Nat.reduceLeDiff, Nat.reduceLT, Nat.reduceMul, reduceIte, Nat.reducePow, Int.reduceEq, List.toList_toArray]; rfl); (first | (apply hc2 <;> (first | assumption | rfl | omega | (refine ⟨?_, ?_⟩ <;> omega)))); rfl)
     | (apply RO.callg; (first | (apply wantT; rfl; rfl; (simp only [Nat.reduceDiv, Nat.reduceMod, get_nth, nth_zero, nth_succ]; rfl)) | (apply wantF; rfl; rfl; (simp only [Nat.reduceDiv, Nat.reduceMod, get_nth, nth_zero, nth_succ]; rfl)) | (apply wantTg; rfl; rfl; (simp only [Nat.reduceDiv, Nat.reduceMod, get_nth, nth_zero, nth_succ]; rfl)) | (apply wantFg; rfl; rfl; (simp only [Nat.reduceDiv, Nat.reduceMod, get_nth, nth_zero, nth_succ]; rfl)) | (apply wantU; rfl; rfl; (simp only [Nat.reduceDiv, Nat.reduceMod, get_nth, nth_zero, nth_succ]; rfl))); (intro h; (try simp only [Bool.and_eq_true, Bool.not_eq_true', Bool.not_eq_eq_eq_not, Bool.not_true] at h); simp only [h, hb, hb2, hln, hx, hx2, hl2, bytesL_len, go_sem, Nat.reduceDiv, Nat.reduceMod, Nat.reduceAdd, Nat.reduceSub, Nat.reduceEqDiff, Nat.reduceLeDiff, Nat.reduceLT, Nat.reduceMul, reduceIte, Nat.reducePow, Int.reduceEq, List.toList_toArray]; rfl); (intro h; (try simp only [Bool.and_eq_true, Bool.not_eq_true', Bool.not_eq_eq_eq_not, Bool.not_true] at h); (first | (apply hc2 <;> (first | assumption | rfl | omega | (refine ⟨?_, ?_⟩ <;> omega))))); rfl)
     | (apply RO.no; apply wantNo; (first | (apply wantT; rfl; rfl; (simp only [Nat.reduceDiv, Nat.reduceMod, get_nth, nth_zero, nth_succ]; rfl)) | (apply wantF; rfl; rfl; (simp only [Nat.reduceDiv, Nat.reduceMod, get_nth, nth_zero, nth_succ]; rfl)) | (apply wantTg; rfl; rfl; (simp only [Nat.reduceDiv, Nat.reduceMod, get_nth, nth_zero, nth_succ]; rfl)) | (apply wantFg; rfl; rfl; (simp only [Nat.reduceDiv, Nat.reduceMod, get_nth, nth_zero, nth_succ]; rfl)) | (apply wantU; rfl; rfl; (simp only [Nat.reduceDiv, Nat.reduceMod, get_nth, nth_zero, nth_succ]; rfl))); (first | rfl | (simp only [hb, hb2, hln, hx, hx2, hl2, bytesL_len, Bool.and_false, Bool.false_and, Bool.not_true, Bool.not_false, decide_true, decide_false, Bool.or_true, Bool.true_or, not_true_eq_false, not_false_eq_true, Bool.and_true, Bool.true_and]; done)); rfl))); done)); (focus kernel_rfl); (focus (first | (apply okPairs_kinds; (focus ((repeat (first | exact Kinds.nil | (apply Kinds.ro; (first | exact RoT.zero | exact RoT.rd | exact RoT.all | exact RoT.rdTr _ | assumption)) | apply Kinds.any)); done)); decide +kernel) | kernel_rfl)))
     | (refine V.cond rfl (fun h => ?_) (fun h => ?_) <;> (try simp only [decide_eq_true_eq, decide_eq_false_iff_not, Bool.and_eq_true, Bool.or_eq_true, Bool.and_eq_false_iff, Bool.or_eq_false_iff, Bool.not_eq_true', Bool.not_eq_false', Bool.not_true, Bool.not_false, Classical.not_not, Int.not_lt, Int.not_le, reduceCtorEq, not_true_eq_false, not_false_eq_true, decide_true, decide_false, Int.reduceEq, Int.reduceLT, Int.reduceLE] at h) <;> (try (exfalso; omega)))
     | (refine FnQ.normal (res0 Try.results32) rfl ?_; (try dsimp only))
     | (refine FnQ.ret (res0 Try.results32) rfl ?_; (try dsimp only))
     | (refine FnQ.ret (res1 Try.results32) (by simp only [Nat.reduceDiv, Nat.reduceMod, get_nth, nth_zero, nth_succ]; rfl) ?_; (try dsimp only))
     | (refine FnQ.ret (res2 Try.results32) (by simp only [Nat.reduceDiv, Nat.reduceMod, get_nth, nth_zero, nth_succ]; rfl) ?_; (try dsimp only))
     | (refine FnQ.retB (resc Try.results32) (by simp only [cellR_op, hb, hb2, hln, hx, hx2, hl2, bytesL_len, go_sem, Nat.reduceDiv, Nat.reduceMod, Nat.reduceAdd, Nat.reduceSub, Nat.reduceEqDiff, Nat.reduceLeDiff, Nat.reduceLT, Nat.reduceMul, reduceIte, Nat.reducePow, Int.reduceEq, List.toList_toArray]; rfl) ?_; (try dsimp only))
     | (refine FnQ.retB (resct Try.results32) (by simp only [cellR_op, hb, hb2, hln, hx, hx2, hl2, bytesL_len, go_sem, Nat.reduceDiv, Nat.reduceMod, Nat.reduceAdd, Nat.reduceSub, Nat.reduceEqDiff, Nat.reduceLeDiff, Nat.reduceLT, Nat.reduceMul, reduceIte, Nat.reducePow, Int.reduceEq, List.toList_toArray]; rfl) ?_; (try dsimp only)))
    rw [put_three, if_neg (by assumption), if_neg (by assumption)]
    have hn2 : n < H2.next := Nat.lt_of_lt_of_le hP.lt hT2.next
    refine ⟨(hT2.sub fun k hk => (h5 k hk).1).set n _ (.inl hP.own), ⟨A, any, decide (4000 < (utf8 (t ++ [r])).length), R2, .inl hP.own, hn2, ?_, hP.ca, hx2, by simp, fun h => by omega, fun _ => ⟨rfl, fun _ => ?_⟩⟩, rfl⟩
    · rw [get_set, if_pos rfl, utf8_snoc]
      have e : decide ((4000 : Int) < ((utf8 t ++ enc r).length : Int)) = decide (4000 < (utf8 t ++ enc r).length) := by
        by_cases hh : 4000 < (utf8 t ++ enc r).length
        · rw [decide_eq_true hh, decide_eq_true (by omega)]
        · rw [decide_eq_false hh, decide_eq_false (by omega)]
      rw [e]
    · rw [utf8_snoc]
      exact (hO3.set hb2 (Nat.ne_of_beq_eq_false rfl) _).mono fun k hk => hk
  · rw [put_three, if_neg (by assumption), if_neg (by assumption)]
    have hl : 4000 < (utf8 t).length := by rw [h] at h1; exact of_decide_eq_true h1.symm
    refine ⟨Turn.refl F H, ⟨A, any, sp, X, .inl hP.own, hP.lt, hP.blk, hP.ca, hP.cx, by simp, fun h => by omega, fun _ => ⟨?_, fun hs => ?_⟩⟩, rfl⟩
    · rw [h, utf8_snoc, List.length_append, decide_eq_true (by omega)]
    · rw [h] at hs; cases hs
theorem escPut_wc (hlo : ∀ k, F k → lo ≤ k) (hFl : ∀ k, F k → k < H.next) {A X : AV} {any sp : Bool} (hP : PP H F n w t A any sp X) (r : Int) (hr : -2147483648 ≤ r ∧ r ≤ 2147483647) (ht : t.length < 2 ^ 20) : WC EA ys lo 12 [.op n 0 0 0, .v (.int .i32 r)] H fun R H' => Turn F H H' ∧ (∃ A any sp X, PP H' (grow F H H') n (put w t r).1 (put w t r).2.1 A any sp X) ∧ EvR H' (grow F H H') R (put w t r).2.2 := by
  have hb := hP.blk
  unfold pBlk at hb
  have hln := hlo n hP.own
  refine WC.enter Try.func12 rfl (Nat.le_of_ble_eq_true rfl) (by simp only [Slots.of, Try.ntmps12, Nat.reduceAdd, Nat.reduceDiv, rows8P, row8]; rfl) ?_
  repeat' (first
   | apply V.sq
   | apply V.bl
   | apply V.sc
   | apply V.skip
   | apply V.label
   | apply V.ret
   | apply V.exit
   | apply SeqQ.normal
   | apply SeqQ.ret
   | apply SeqQ.exit
   | apply BlockQ.normal
   | apply BlockQ.ret
   | apply BlockQ.here
   | (apply BlockQ.there; decide)
   | apply LoopS.ret
   | apply LoopS.exit
   | apply LoopF.ret
   | apply LoopF.exit
   | (apply V.reg; (focus ((repeat (first
   | exact RO.nil
   | (apply RO.op; rfl; (simp only [hb, hln, go_sem, Nat.reduceDiv, Nat.reduceMod, Nat.reduceAdd, Nat.reduceSub, Nat.reduceEqDiff, Nat.reduceLeDiff, Nat.reduceLT, Nat.reduceMul, reduceIte, Nat.reducePow, Int.reduceEq, List.toList_toArray]; (first | rfl | (apply ite_ok; (first | assumption | rfl | omega | (refine ⟨?_, ?_⟩ <;> omega)); rfl))); rfl)
   | (apply RO.opg; (first | (apply wantT; rfl; rfl; (simp only [Nat.reduceDiv, Nat.reduceMod, get_nth, nth_zero, nth_succ]; rfl)) | (apply wantF; rfl; rfl; (simp only [Nat.reduceDiv, Nat.reduceMod, get_nth, nth_zero, nth_succ]; rfl)) | (apply wantTg; rfl; rfl; (simp only [Nat.reduceDiv, Nat.reduceMod, get_nth, nth_zero, nth_succ]; rfl)) | (apply wantFg; rfl; rfl; (simp only [Nat.reduceDiv, Nat.reduceMod, get_nth, nth_zero, nth_succ]; rfl)) | (apply wantU; rfl; rfl; (simp only [Nat.reduceDiv, Nat.reduceMod, get_nth, nth_zero, nth_succ]; rfl))); (intro h; (try simp only [Bool.and_eq_true, Bool.not_eq_true', Bool.not_eq_eq_eq_not, Bool.not_true] at h); simp only [h, hb, hln, go_sem, Nat.reduceDiv, Nat.reduceMod, Nat.reduceAdd, Nat.reduceSub, Nat.reduceEqDiff, Nat.reduceLeDiff, Nat.reduceLT, Nat.reduceMul, reduceIte, Nat.reducePow, Int.reduceEq, List.toList_toArray]; (first | rfl | (apply ite_ok; (first | assumption | rfl | omega | (refine ⟨?_, ?_⟩ <;> omega)); rfl))); rfl)
   | (apply RO.call; exact want0 rfl; (simp only [hb, hln, go_sem, Nat.reduceDiv, Nat.reduceMod, Nat.reduceAdd, Nat.reduceSub, Nat.reduceEqDiff, Nat.reduceLeDiff, Nat.reduceLT, Nat.reduceMul, reduceIte, Nat.reducePow, Int.reduceEq, List.toList_toArray]; rfl); fail; rfl)
   | (apply RO.callg; (first | (apply wantT; rfl; rfl; (simp only [Nat.reduceDiv, Nat.reduceMod, get_nth, nth_zero, nth_succ]; rfl)) | (apply wantF; rfl; rfl; (simp only [Nat.reduceDiv, Nat.reduceMod, get_nth, nth_zero, nth_succ]; rfl)) | (apply wantTg; rfl; rfl; (simp only [Nat.reduceDiv, Nat.reduceMod, get_nth, nth_zero, nth_succ]; rfl)) | (apply wantFg; rfl; rfl; (simp only [Nat.reduceDiv, Nat.reduceMod, get_nth, nth_zero, nth_succ]; rfl)) | (apply wantU; rfl; rfl; (simp only [Nat.reduceDiv, Nat.reduceMod, get_nth, nth_zero, nth_succ]; rfl))); (intro h; (try simp only [Bool.and_eq_true, Bool.not_eq_true', Bool.not_eq_eq_eq_not, Bool.not_true] at h); simp only [h, hb, hln, go_sem, Nat.reduceDiv, Nat.reduceMod, Nat.reduceAdd, Nat.reduceSub, Nat.reduceEqDiff, Nat.reduceLeDiff, Nat.reduceLT, Nat.reduceMul, reduceIte, Nat.reducePow, Int.reduceEq, List.toList_toArray]; rfl); (intro h; (try simp only [Bool.and_eq_true, Bool.not_eq_true', Bool.not_eq_eq_eq_not, Bool.not_true] at h); fail); rfl)
   | (apply RO.no; apply wantNo; (first | (apply wantT; rfl; rfl; (simp only [Nat.reduceDiv, Nat.reduceMod, get_nth, nth_zero, nth_succ]; rfl)) | (apply wantF; rfl; rfl; (simp only [Nat.reduceDiv, Nat.reduceMod, get_nth, nth_zero, nth_succ]; rfl)) | (apply wantTg; rfl; rfl; (simp only [Nat.reduceDiv, Nat.reduceMod, get_nth, nth_zero, nth_succ]; rfl)) | (apply wantFg; rfl; rfl; (simp only [Nat.reduceDiv, Nat.reduceMod, get_nth, nth_zero, nth_succ]; rfl)) | (apply wantU; rfl; rfl; (simp only [Nat.reduceDiv, Nat.reduceMod, get_nth, nth_zero, nth_succ]; rfl))); (first | rfl | (simp only [hb, hln, Bool.and_false, Bool.false_and, Bool.not_true, Bool.not_false, decide_true, decide_false, Bool.or_true, Bool.true_or, not_true_eq_false, not_false_eq_true, Bool.and_true, Bool.true_and]; done)); rfl))); done)))
   | (apply V.regd; (focus ((repeat (first
   | exact RO.nil
   | (apply RO.op; rfl; (simp only [hb, hln, go_sem, Nat.reduceDiv, Nat.reduceMod, Nat.reduceAdd, Nat.reduceSub, Nat.reduceEqDiff, Nat.reduceLeDiff, Nat.reduceLT, Nat.reduceMul, reduceIte, Nat.reducePow, Int.reduceEq, List.toList_toArray]; (first | rfl | (apply ite_ok; (first | assumption | rfl | omega | (refine ⟨?_, ?_⟩ <;> omega)); rfl))); rfl)
   | (apply RO.opg; (first | (apply wantT; rfl; rfl; (simp only [Nat.reduceDiv, Nat.reduceMod, get_nth, nth_zero, nth_succ]; rfl)) | (apply wantF; rfl; rfl; (simp only [Nat.reduceDiv, Nat.reduceMod, get_nth, nth_zero, nth_succ]; rfl)) | (apply wantTg; rfl; rfl; (simp only [Nat.reduceDiv, Nat.reduceMod, get_nth, nth_zero, nth_succ]; rfl)) | (apply wantFg; rfl; rfl; (simp only [Nat.reduceDiv, Nat.reduceMod, get_nth, nth_zero, nth_succ]; rfl)) | (apply wantU; rfl; rfl; (simp only [Nat.reduceDiv, Nat.reduceMod, get_nth, nth_zero, nth_succ]; rfl))); (intro h; (try simp only [Bool.and_eq_true, Bool.not_eq_true', Bool.not_eq_eq_eq_not, Bool.not_true] at h); simp only [h, hb, hln, go_sem, Nat.reduceDiv, Nat.reduceMod, Nat.reduceAdd, Nat.reduceSub, Nat.reduceEqDiff, Nat.reduceLeDiff, Nat.reduceLT, Nat.reduceMul, reduceIte, Nat.reducePow, Int.reduceEq, List.toList_toArray]; (first | rfl | (apply ite_ok; (first | assumption | rfl | omega | (refine ⟨?_, ?_⟩ <;> omega)); rfl))); rfl)
   | (apply RO.call; exact want0 rfl; (simp only [hb, hln, go_sem, Nat.reduceDiv, Nat.reduceMod, Nat.reduceAdd, Nat.reduceSub, Nat.reduceEqDiff, Nat.reduceLeDiff, Nat.reduceLT, Nat.reduceMul, reduceIte, Nat.reducePow, Int.reduceEq, List.toList_toArray]; rfl); fail; rfl)
   | (apply RO.callg; (first | (apply wantT; rfl; rfl; (simp only [Nat.reduceDiv, Nat.reduceMod, get_nth, nth_zero, nth_succ]; rfl)) | (apply wantF; rfl; rfl; (simp only [Nat.reduceDiv, Nat.reduceMod, get_nth, nth_zero, nth_succ]; rfl)) | (apply wantTg; rfl; rfl; (simp only [Nat.reduceDiv, Nat.reduceMod, get_nth, nth_zero, nth_succ]; rfl)) | (apply wantFg; rfl; rfl; (simp only [Nat.reduceDiv, Nat.reduceMod, get_nth, nth_zero, nth_succ]; rfl)) | (apply wantU; rfl; rfl; (simp only [Nat.reduceDiv, Nat.reduceMod, get_nth, nth_zero, nth_succ]; rfl))); (intro h; (try simp only [Bool.and_eq_true, Bool.not_eq_true', Bool.not_eq_eq_eq_not, Bool.not_true] at h); simp only [h, hb, hln, go_sem, Nat.reduceDiv, Nat.reduceMod, Nat.reduceAdd, Nat.reduceSub, Nat.reduceEqDiff, Nat.reduceLeDiff, Nat.reduceLT, Nat.reduceMul, reduceIte, Nat.reducePow, Int.reduceEq, List.toList_toArray]; rfl); (intro h; (try simp only [Bool.and_eq_true, Bool.not_eq_true', Bool.not_eq_eq_eq_not, Bool.not_true] at h); fail); rfl)
   | (apply RO.no; apply wantNo; (first | (apply wantT; rfl; rfl; (simp only [Nat.reduceDiv, Nat.reduceMod, get_nth, nth_zero, nth_succ]; rfl)) | (apply wantF; rfl; rfl; (simp only [Nat.reduceDiv, Nat.reduceMod, get_nth, nth_zero, nth_succ]; rfl)) | (apply wantTg; rfl; rfl; (simp only [Nat.reduceDiv, Nat.reduceMod, get_nth, nth_zero, nth_succ]; rfl)) | (apply wantFg; rfl; rfl; (simp only [Nat.reduceDiv, Nat.reduceMod, get_nth, nth_zero, nth_succ]; rfl)) | (apply wantU; rfl; rfl; (simp only [Nat.reduceDiv, Nat.reduceMod, get_nth, nth_zero, nth_succ]; rfl))); (first | rfl | (simp only [hb, hln, Bool.and_false, Bool.false_and, Bool.not_true, Bool.not_false, decide_true, decide_false, Bool.or_true, Bool.true_or, not_true_eq_false, not_false_eq_true, Bool.and_true, Bool.true_and]; done)); rfl))); done)); (focus kernel_rfl); (focus (first | (apply okPairs_kinds; (focus ((repeat (first | exact Kinds.nil | (apply Kinds.ro; (first | exact RoT.zero | exact RoT.rd | exact RoT.all | exact RoT.rdTr _ | assumption)) | apply Kinds.any)); done)); decide +kernel) | kernel_rfl)))
   | (refine V.cond rfl (fun h => ?_) (fun h => ?_) <;> (try simp only [decide_eq_true_eq, decide_eq_false_iff_not, Bool.and_eq_true, Bool.or_eq_true, Bool.and_eq_false_iff, Bool.or_eq_false_iff, Bool.not_eq_true', Bool.not_eq_false', Bool.not_true, Bool.not_false, Classical.not_not, Int.not_lt, Int.not_le, reduceCtorEq, not_true_eq_false, not_false_eq_true, decide_true, decide_false, Int.reduceEq, Int.reduceLT, Int.reduceLE] at h) <;> (try (exfalso; omega)))
   | (refine FnQ.normal (res0 Try.results12) rfl ?_; (try dsimp only))
   | (refine FnQ.ret (res0 Try.results12) rfl ?_; (try dsimp only))
   | (refine FnQ.ret (res1 Try.results12) (by simp only [Nat.reduceDiv, Nat.reduceMod, get_nth, nth_zero, nth_succ]; rfl) ?_; (try dsimp only))
   | (refine FnQ.ret (res2 Try.results12) (by simp only [Nat.reduceDiv, Nat.reduceMod, get_nth, nth_zero, nth_succ]; rfl) ?_; (try dsimp only))
   | (refine FnQ.retB (resc Try.results12) (by simp only [cellR_op, hb, hln, go_sem, Nat.reduceDiv, Nat.reduceMod, Nat.reduceAdd, Nat.reduceSub, Nat.reduceEqDiff, Nat.reduceLeDiff, Nat.reduceLT, Nat.reduceMul, reduceIte, Nat.reducePow, Int.reduceEq, List.toList_toArray]; rfl) ?_; (try dsimp only))
   | (refine FnQ.retB (resct Try.results12) (by simp only [cellR_op, hb, hln, go_sem, Nat.reduceDiv, Nat.reduceMod, Nat.reduceAdd, Nat.reduceSub, Nat.reduceEqDiff, Nat.reduceLeDiff, Nat.reduceLT, Nat.reduceMul, reduceIte, Nat.reducePow, Int.reduceEq, List.toList_toArray]; rfl) ?_; (try dsimp only)))
  apply V.un
  rcases hP.w4 with rfl | rfl | rfl | rfl | rfl
  · obtain ⟨R, H1, ⟨hT, hP', hE⟩, hc⟩ := WC.eff (ys := ys) (lo := lo) rfl (rests_wc hlo hP r)
    have e : (put 0 t r).2.1 = t := by
      unfold put
      rw [if_neg (by omega), if_neg (by omega), if_pos rfl]
      repeat (first | rfl | split)
    repeat' (first
     | apply V.sq
     | apply V.bl
     | apply V.sc
     | apply V.skip
     | apply V.label
     | apply V.ret
     | apply V.exit
     | apply SeqQ.normal
     | apply SeqQ.ret
     | apply SeqQ.exit
     | apply BlockQ.normal
     | apply BlockQ.ret
     | apply BlockQ.here
     | (apply BlockQ.there; decide)
     | apply LoopS.ret
     | apply LoopS.exit
     | apply LoopF.ret
     | apply LoopF.exit
     | (apply V.reg; (focus ((repeat (first
     | exact RO.nil
     | (apply RO.op; rfl; (simp only [hb, hln, go_sem, Nat.reduceDiv, Nat.reduceMod, Nat.reduceAdd, Nat.reduceSub, Nat.reduceEqDiff, Nat.reduceLeDiff, Nat.reduceLT, Nat.reduceMul, reduceIte, Nat.reducePow, Int.reduceEq, List.toList_toArray]; (first | rfl | (apply ite_ok; (first | assumption | rfl | omega | (refine ⟨?_, ?_⟩ <;> omega)); rfl))); rfl)
     | (apply RO.opg; (first | (apply wantT; rfl; rfl; (simp only [Nat.reduceDiv, Nat.reduceMod, get_nth, nth_zero, nth_succ]; rfl)) | (apply wantF; rfl; rfl; (simp only [Nat.reduceDiv, Nat.reduceMod, get_nth, nth_zero, nth_succ]; rfl)) | (apply wantTg; rfl; rfl; (simp only [Nat.reduceDiv, Nat.reduceMod, get_nth, nth_zero, nth_succ]; rfl)) | (apply wantFg; rfl; rfl; (simp only [Nat.reduceDiv, Nat.reduceMod, get_nth, nth_zero, nth_succ]; rfl)) | (apply wantU; rfl; rfl; (simp only [Nat.reduceDiv, Nat.reduceMod, get_nth, nth_zero, nth_succ]; rfl))); (intro h; (try simp only [Bool.and_eq_true, Bool.not_eq_true', Bool.not_eq_eq_eq_not, Bool.not_true] at h); simp only [h, hb, hln, go_sem, Nat.reduceDiv, Nat.reduceMod, Nat.reduceAdd, Nat.reduceSub, Nat.reduceEqDiff, Nat.reduceLeDiff, Nat.reduceLT, Nat.reduceMul, reduceIte, Nat.reducePow, Int.reduceEq, List.toList_toArray]; (first | rfl | (apply ite_ok; (first | assumption | rfl | omega | (refine ⟨?_, ?_⟩ <;> omega)); rfl))); rfl)
     | (apply RO.call; exact want0 rfl; (simp only [hb, hln, go_sem, Nat.reduceDiv, Nat.reduceMod, Nat.reduceAdd, Nat.reduceSub, Nat.reduceEqDiff, Nat.reduceLeDiff, Nat.reduceLT, Nat.reduceMul, reduceIte, Nat.reducePow, Int.reduceEq, List.toList_toArray]; rfl); (first | (apply hc <;> (first | assumption | rfl | omega | (refine ⟨?_, ?_⟩ <;> omega)))); rfl)
     | (apply RO.callg; (first | (apply wantT; rfl; rfl; (simp only [Nat.reduceDiv, Nat.reduceMod, get_nth, nth_zero, nth_succ]; rfl)) | (apply wantF; rfl; rfl; (simp only [Nat.reduceDiv, Nat.reduceMod, get_nth, nth_zero, nth_succ]; rfl)) | (apply wantTg; rfl; rfl; (simp only [Nat.reduceDiv, Nat.reduceMod, get_nth, nth_zero, nth_succ]; rfl)) | (apply wantFg; rfl; rfl; (simp only [Nat.reduceDiv, Nat.reduceMod, get_nth, nth_zero, nth_succ]; rfl)) | (apply wantU; rfl; rfl; (simp only [Nat.reduceDiv, Nat.reduceMod, get_nth, nth_zero, nth_succ]; rfl))); (intro h; (try simp only [Bool.and_eq_true, Bool.not_eq_true', Bool.not_eq_eq_eq_not, Bool.not_true] at h); simp only [h, hb, hln, go_sem, Nat.reduceDiv, Nat.reduceMod, Nat.reduceAdd, Nat.reduceSub, Nat.reduceEqDiff, Nat.reduceLeDiff, Nat.reduceLT, Nat.reduceMul, reduceIte, Nat.reducePow, Int.reduceEq, List.toList_toArray]; rfl); (intro h; (try simp only [Bool.and_eq_true, Bool.not_eq_true', Bool.not_eq_eq_eq_not, Bool.not_true] at h); (first | (apply hc <;> (first | assumption | rfl | omega | (refine ⟨?_, ?_⟩ <;> omega))))); rfl)
     | (apply RO.no; apply wantNo; (first | (apply wantT; rfl; rfl; (simp only [Nat.reduceDiv, Nat.reduceMod, get_nth, nth_zero, nth_succ]; rfl)) | (apply wantF; rfl; rfl; (simp only [Nat.reduceDiv, Nat.reduceMod, get_nth, nth_zero, nth_succ]; rfl)) | (apply wantTg; rfl; rfl; (simp only [Nat.reduceDiv, Nat.reduceMod, get_nth, nth_zero, nth_succ]; rfl)) | (apply wantFg; rfl; rfl; (simp only [Nat.reduceDiv, Nat.reduceMod, get_nth, nth_zero, nth_succ]; rfl)) | (apply wantU; rfl; rfl; (simp only [Nat.reduceDiv, Nat.reduceMod, get_nth, nth_zero, nth_succ]; rfl))); (first | rfl | (simp only [hb, hln, Bool.and_false, Bool.false_and, Bool.not_true, Bool.not_false, decide_true, decide_false, Bool.or_true, Bool.true_or, not_true_eq_false, not_false_eq_true, Bool.and_true, Bool.true_and]; done)); rfl))); done)))
     | (apply V.regd; (focus ((repeat (first
     | exact RO.nil
     | (apply RO.op; rfl; (simp only [hb, hln, go_sem, Nat.reduceDiv, Nat.reduceMod, Nat.reduceAdd, Nat.reduceSub, Nat.reduceEqDiff, Nat.reduceLeDiff, Nat.reduceLT, Nat.reduceMul, reduceIte, Nat.reducePow, Int.reduceEq, List.toList_toArray]; (first | rfl | (apply ite_ok; (first | assumption | rfl | omega | (refine ⟨?_, ?_⟩ <;> omega)); rfl))); rfl)
     | (apply RO.opg; (first | (apply wantT; rfl; rfl; (simp only [Nat.reduceDiv, Nat.reduceMod, get_nth, nth_zero, nth_succ]; rfl)) | (apply wantF; rfl; rfl; (simp only [Nat.reduceDiv, Nat.reduceMod, get_nth, nth_zero, nth_succ]; rfl)) | (apply wantTg; rfl; rfl; (simp only [Nat.reduceDiv, Nat.reduceMod, get_nth, nth_zero, nth_succ]; rfl)) | (apply wantFg; rfl; rfl; (simp only [Nat.reduceDiv, Nat.reduceMod, get_nth, nth_zero, nth_succ]; rfl)) | (apply wantU; rfl; rfl; (simp only [Nat.reduceDiv, Nat.reduceMod, get_nth, nth_zero, nth_succ]; rfl))); (intro h; (try simp only [Bool.and_eq_true, Bool.not_eq_true', Bool.not_eq_eq_eq_not, Bool.not_true] at h); simp only [h, hb, hln, go_sem, Nat.reduceDiv, Nat.reduceMod, Nat.reduceAdd, Nat.reduceSub, Nat.reduceEqDiff, Nat.reduceLeDiff, Nat.reduceLT, Nat.reduceMul, reduceIte, Nat.reducePow, Int.reduceEq, List.toList_toArray]; (first | rfl | (apply ite_ok; (first | assumption | rfl | omega | (refine ⟨?_, ?_⟩ <;> omega)); rfl))); rfl)
     | (apply RO.call; exact want0 rfl; (simp only [hb, hln, go_sem, Nat.reduceDiv, Nat.reduceMod, Nat.reduceAdd, Nat.reduceSub, Nat.reduceEqDiff, Nat.reduceLeDiff, Nat.reduceLT, Nat.reduceMul, reduceIte, Nat.reducePow, Int.reduceEq, List.toList_toArray]; rfl); (first | (apply hc <;> (first | assumption | rfl | omega | (refine ⟨?_, ?_⟩ <;> omega)))); rfl)
     | (apply RO.callg; (first | (apply wantT; rfl; rfl; (simp only [Nat.reduceDiv, Nat.reduceMod, get_nth, nth_zero, nth_succ]; rfl)) | (apply wantF; rfl; rfl; (simp only [Nat.reduceDiv, Nat.reduceMod, get_nth, nth_zero, nth_succ]; rfl)) | (apply wantTg; rfl; rfl; (simp only [Nat.reduceDiv, Nat.reduceMod, get_nth, nth_zero, nth_succ]; rfl)) | (apply wantFg; rfl; rfl; (simp only [Nat.reduceDiv, Nat.reduceMod, get_nth, nth_zero, nth_succ]; rfl)) | (apply wantU; rfl; rfl; (simp only [Nat.reduceDiv, Nat.reduceMod, get_nth, nth_zero, nth_succ]; rfl))); (intro h; (try simp only [Bool.and_eq_true, Bool.not_eq_true', Bool.not_eq_eq_eq_not, Bool.not_true] at h); simp only [h, hb, hln, go_sem, Nat.reduceDiv, Nat.reduceMod, Nat.reduceAdd, Nat.reduceSub, Nat.reduceEqDiff, Nat.reduceLeDiff, Nat.reduceLT, Nat.reduceMul, reduceIte, Nat.reducePow, Int.reduceEq, List.toList_toArray]; rfl); (intro h; (try simp only [Bool.and_eq_true, Bool.not_eq_true', Bool.not_eq_eq_eq_not, Bool.not_true] at h); (first | (apply hc <;> (first | assumption | rfl | omega | (refine ⟨?_, ?_⟩ <;> omega))))); rfl)
     | (apply RO.no; apply wantNo; (first | (apply wantT; rfl; rfl; (simp only [Nat.reduceDiv, Nat.reduceMod, get_nth, nth_zero, nth_succ]; rfl)) | (apply wantF; rfl; rfl; (simp only [Nat.reduceDiv, Nat.reduceMod, get_nth, nth_zero, nth_succ]; rfl)) | (apply wantTg; rfl; rfl; (simp only [Nat.reduceDiv, Nat.reduceMod, get_nth, nth_zero, nth_succ]; rfl)) | (apply wantFg; rfl; rfl; (simp only [Nat.reduceDiv, Nat.reduceMod, get_nth, nth_zero, nth_succ]; rfl)) | (apply wantU; rfl; rfl; (simp only [Nat.reduceDiv, Nat.reduceMod, get_nth, nth_zero, nth_succ]; rfl))); (first | rfl | (simp only [hb, hln, Bool.and_false, Bool.false_and, Bool.not_true, Bool.not_false, decide_true, decide_false, Bool.or_true, Bool.true_or, not_true_eq_false, not_false_eq_true, Bool.and_true, Bool.true_and]; done)); rfl))); done)); (focus kernel_rfl); (focus (first | (apply okPairs_kinds; (focus ((repeat (first | exact Kinds.nil | (apply Kinds.ro; (first | exact RoT.zero | exact RoT.rd | exact RoT.all | exact RoT.rdTr _ | assumption)) | apply Kinds.any)); done)); decide +kernel) | kernel_rfl)))
     | (refine V.cond rfl (fun h => ?_) (fun h => ?_) <;> (try simp only [decide_eq_true_eq, decide_eq_false_iff_not, Bool.and_eq_true, Bool.or_eq_true, Bool.and_eq_false_iff, Bool.or_eq_false_iff, Bool.not_eq_true', Bool.not_eq_false', Bool.not_true, Bool.not_false, Classical.not_not, Int.not_lt, Int.not_le, reduceCtorEq, not_true_eq_false, not_false_eq_true, decide_true, decide_false, Int.reduceEq, Int.reduceLT, Int.reduceLE] at h) <;> (try (exfalso; omega)))
     | (refine FnQ.normal (res0 Try.results12) rfl ?_; (try dsimp only))
     | (refine FnQ.ret (res0 Try.results12) rfl ?_; (try dsimp only))
     | (refine FnQ.ret (res1 Try.results12) (by simp only [Nat.reduceDiv, Nat.reduceMod, get_nth, nth_zero, nth_succ]; rfl) ?_; (try dsimp only))
     | (refine FnQ.ret (res2 Try.results12) (by simp only [Nat.reduceDiv, Nat.reduceMod, get_nth, nth_zero, nth_succ]; rfl) ?_; (try dsimp only))
     | (refine FnQ.retB (resc Try.results12) (by simp only [cellR_op, hb, hln, go_sem, Nat.reduceDiv, Nat.reduceMod, Nat.reduceAdd, Nat.reduceSub, Nat.reduceEqDiff, Nat.reduceLeDiff, Nat.reduceLT, Nat.reduceMul, reduceIte, Nat.reducePow, Int.reduceEq, List.toList_toArray]; rfl) ?_; (try dsimp only))
     | (refine FnQ.retB (resct Try.results12) (by simp only [cellR_op, hb, hln, go_sem, Nat.reduceDiv, Nat.reduceMod, Nat.reduceAdd, Nat.reduceSub, Nat.reduceEqDiff, Nat.reduceLeDiff, Nat.reduceLT, Nat.reduceMul, reduceIte, Nat.reducePow, Int.reduceEq, List.toList_toArray]; rfl) ?_; (try dsimp only)))
    rw [e]
    exact ⟨hT, ⟨_, _, _, _, hP'⟩, hE⟩
  · obtain ⟨R, H1, ⟨hT, hP'⟩, hc⟩ := WC.eff (ys := ys) (lo := lo) rfl (escapes_wc hlo hP r)
    have e : put 1 t r = (if r = 91 then 2 else if r = 93 then 3 else if r = 27 then 1 else 0, [], none) := by unfold put; rw [if_neg (by omega), if_pos (.inr rfl)]
    repeat' (first
     | apply V.sq
     | apply V.bl
     | apply V.sc
     | apply V.skip
     | apply V.label
     | apply V.ret
     | apply V.exit
     | apply SeqQ.normal
     | apply SeqQ.ret
     | apply SeqQ.exit
     | apply BlockQ.normal
     | apply BlockQ.ret
     | apply BlockQ.here
     | (apply BlockQ.there; decide)
     | apply LoopS.ret
     | apply LoopS.exit
     | apply LoopF.ret
     | apply LoopF.exit
     | (apply V.reg; (focus ((repeat (first
     | exact RO.nil
     | (apply RO.op; rfl; (simp only [hb, hln, go_sem, Nat.reduceDiv, Nat.reduceMod, Nat.reduceAdd, Nat.reduceSub, Nat.reduceEqDiff, Nat.reduceLeDiff, Nat.reduceLT, Nat.reduceMul, reduceIte, Nat.reducePow, Int.reduceEq, List.toList_toArray]; (first | rfl | (apply ite_ok; (first | assumption | rfl | omega | (refine ⟨?_, ?_⟩ <;> omega)); rfl))); rfl)
     | (apply RO.opg; (first | (apply wantT; rfl; rfl; (simp only [Nat.reduceDiv, Nat.reduceMod, get_nth, nth_zero, nth_succ]; rfl)) | (apply wantF; rfl; rfl; (simp only [Nat.reduceDiv, Nat.reduceMod, get_nth, nth_zero, nth_succ]; rfl)) | (apply wantTg; rfl; rfl; (simp only [Nat.reduceDiv, Nat.reduceMod, get_nth, nth_zero, nth_succ]; rfl)) | (apply wantFg; rfl; rfl; (simp only [Nat.reduceDiv, Nat.reduceMod, get_nth, nth_zero, nth_succ]; rfl)) | (apply wantU; rfl; rfl; (simp only [Nat.reduceDiv, Nat.reduceMod, get_nth, nth_zero, nth_succ]; rfl))); (intro h; (try simp only [Bool.and_eq_true, Bool.not_eq_true', Bool.not_eq_eq_eq_not, Bool.not_true] at h); simp only [h, hb, hln, go_sem, Nat.reduceDiv, Nat.reduceMod, Nat.reduceAdd, Nat.reduceSub, Nat.reduceEqDiff, Nat.reduceLeDiff, Nat.reduceLT, Nat.reduceMul, reduceIte, Nat.reducePow, Int.reduceEq, List.toList_toArray]; (first | rfl | (apply ite_ok; (first | assumption | rfl | omega | (refine ⟨?_, ?_⟩ <;> omega)); rfl))); rfl)
     | (apply RO.call; exact want0 rfl; (simp only [hb, hln, go_sem, Nat.reduceDiv, Nat.reduceMod, Nat.reduceAdd, Nat.reduceSub, Nat.reduceEqDiff, Nat.reduceLeDiff, Nat.reduceLT, Nat.reduceMul, reduceIte, Nat.reducePow, Int.reduceEq, List.toList_toArray]; rfl); (first | (apply hc <;> (first | assumption | rfl | omega | (refine ⟨?_, ?_⟩ <;> omega)))); rfl)
     | (apply RO.callg; (first | (apply wantT; rfl; rfl; (simp only [Nat.reduceDiv, Nat.reduceMod, get_nth, nth_zero, nth_succ]; rfl)) | (apply wantF; rfl; rfl; (simp only [Nat.reduceDiv, Nat.reduceMod, get_nth, nth_zero, nth_succ]; rfl)) | (apply wantTg; rfl; rfl; (simp only [Nat.reduceDiv, Nat.reduceMod, get_nth, nth_zero, nth_succ]; rfl)) | (apply wantFg; rfl; rfl; (simp only [Nat.reduceDiv, Nat.reduceMod, get_nth, nth_zero, nth_succ]; rfl)) | (apply wantU; rfl; rfl; (simp only [Nat.reduceDiv, Nat.reduceMod, get_nth, nth_zero, nth_succ]; rfl))); (intro h; (try simp only [Bool.and_eq_true, Bool.not_eq_true', Bool.not_eq_eq_eq_not, Bool.not_true] at h); simp only [h, hb, hln, go_sem, Nat.reduceDiv, Nat.reduceMod, Nat.reduceAdd, Nat.reduceSub, Nat.reduceEqDiff, Nat.reduceLeDiff, Nat.reduceLT, Nat.reduceMul, reduceIte, Nat.reducePow, Int.reduceEq, List.toList_toArray]; rfl); (intro h; (try simp only [Bool.and_eq_true, Bool.not_eq_true', Bool.not_eq_eq_eq_not, Bool.not_true] at h); (first | (apply hc <;> (first | assumption | rfl | omega | (refine ⟨?_, ?_⟩ <;> omega))))); rfl)
     | (apply RO.no; apply wantNo; (first | (apply wantT; rfl; rfl; (simp only [Nat.reduceDiv, Nat.reduceMod, get_nth, nth_zero, nth_succ]; rfl)) | (apply wantF; rfl; rfl; (simp only [Nat.reduceDiv, Nat.reduceMod, get_nth, nth_zero, nth_succ]; rfl)) | (apply wantTg; rfl; rfl; (simp only [Nat.reduceDiv, Nat.reduceMod, get_nth, nth_zero, nth_succ]; rfl)) | (apply wantFg; rfl; rfl; (simp only [Nat.reduceDiv, Nat.reduceMod, get_nth, nth_zero, nth_succ]; rfl)) | (apply wantU; rfl; rfl; (simp only [Nat.reduceDiv, Nat.reduceMod, get_nth, nth_zero, nth_succ]; rfl))); (first | rfl | (simp only [hb, hln, Bool.and_false, Bool.false_and, Bool.not_true, Bool.not_false, decide_true, decide_false, Bool.or_true, Bool.true_or, not_true_eq_false, not_false_eq_true, Bool.and_true, Bool.true_and]; done)); rfl))); done)))
     | (apply V.regd; (focus ((repeat (first
     | exact RO.nil
     | (apply RO.op; rfl; (simp only [hb, hln, go_sem, Nat.reduceDiv, Nat.reduceMod, Nat.reduceAdd, Nat.reduceSub, Nat.reduceEqDiff, Nat.reduceLeDiff, Nat.reduceLT, Nat.reduceMul, reduceIte, Nat.reducePow, Int.reduceEq, List.toList_toArray]; (first | rfl | (apply ite_ok; (first | assumption | rfl | omega | (refine ⟨?_, ?_⟩ <;> omega)); rfl))); rfl)
     | (apply RO.opg; (first | (apply wantT; rfl; rfl; (simp only [Nat.reduceDiv, Nat.reduceMod, get_nth, nth_zero, nth_succ]; rfl)) | (apply wantF; rfl; rfl; (simp only [Nat.reduceDiv, Nat.reduceMod, get_nth, nth_zero, nth_succ]; rfl)) | (apply wantTg; rfl; rfl; (simp only [Nat.reduceDiv, Nat.reduceMod, get_nth, nth_zero, nth_succ]; rfl)) | (apply wantFg; rfl; rfl; (simp only [Nat.reduceDiv, Nat.reduceMod, get_nth, nth_zero, nth_succ]; rfl)) | (apply wantU; rfl; rfl; (simp only [Nat.reduceDiv, Nat.reduceMod, get_nth, nth_zero, nth_succ]; rfl))); (intro h; (try simp only [Bool.and_eq_true, Bool.not_eq_true', Bool.not_eq_eq_eq_not, Bool.not_true] at h); simp only [h, hb, hln, go_sem, Nat.reduceDiv, Nat.reduceMod, Nat.reduceAdd, Nat.reduceSub, Nat.reduceEqDiff, Nat.reduceLeDiff, Nat.reduceLT, Nat.reduceMul, reduceIte, Nat.reducePow, Int.reduceEq, List.toList_toArray]; (first | rfl | (apply ite_ok; (first | assumption | rfl | omega | (refine ⟨?_, ?_⟩ <;> omega)); rfl))); rfl)
     | (apply RO.call; exact want0 rfl; (simp only [hb, hln, go_sem, Nat.reduceDiv, Nat.reduceMod, Nat.reduceAdd, Nat.reduceSub, Nat.reduceEqDiff, Nat.reduceLeDiff, Nat.reduceLT, Nat.reduceMul, reduceIte, Nat.reducePow, Int.reduceEq, List.toList_toArray]; rfl); (first | (apply hc <;> (first | assumption | rfl | omega | (refine ⟨?_, ?_⟩ <;> omega)))); rfl)
     | (apply RO.callg; (first | (apply wantT; rfl; rfl; (simp only [Nat.reduceDiv, Nat.reduceMod, get_nth, nth_zero, nth_succ]; rfl)) | (apply wantF; rfl; rfl; (simp only [Nat.reduceDiv, Nat.reduceMod, get_nth, nth_zero, nth_succ]; rfl)) | (apply wantTg; rfl; rfl; (simp only [Nat.reduceDiv, Nat.reduceMod, get_nth, nth_zero, nth_succ]; rfl)) | (apply wantFg; rfl; rfl; (simp only [Nat.reduceDiv, Nat.reduceMod, get_nth, nth_zero, nth_succ]; rfl)) | (apply wantU; rfl; rfl; (simp only [Nat.reduceDiv, Nat.reduceMod, get_nth, nth_zero, nth_succ]; rfl))); (intro h; (try simp only [Bool.and_eq_true, Bool.not_eq_true', Bool.not_eq_eq_eq_not, Bool.not_true] at h); simp only [h, hb, hln, go_sem, Nat.reduceDiv, Nat.reduceMod, Nat.reduceAdd, Nat.reduceSub, Nat.reduceEqDiff, Nat.reduceLeDiff, Nat.reduceLT, Nat.reduceMul, reduceIte, Nat.reducePow, Int.reduceEq, List.toList_toArray]; rfl); (intro h; (try simp only [Bool.and_eq_true, Bool.not_eq_true', Bool.not_eq_eq_eq_not, Bool.not_true] at h); (first | (apply hc <;> (first | assumption | rfl | omega | (refine ⟨?_, ?_⟩ <;> omega))))); rfl)
     | (apply RO.no; apply wantNo; (first | (apply wantT; rfl; rfl; (simp only [Nat.reduceDiv, Nat.reduceMod, get_nth, nth_zero, nth_succ]; rfl)) | (apply wantF; rfl; rfl; (simp only [Nat.reduceDiv, Nat.reduceMod, get_nth, nth_zero, nth_succ]; rfl)) | (apply wantTg; rfl; rfl; (simp only [Nat.reduceDiv, Nat.reduceMod, get_nth, nth_zero, nth_succ]; rfl)) | (apply wantFg; rfl; rfl; (simp only [Nat.reduceDiv, Nat.reduceMod, get_nth, nth_zero, nth_succ]; rfl)) | (apply wantU; rfl; rfl; (simp only [Nat.reduceDiv, Nat.reduceMod, get_nth, nth_zero, nth_succ]; rfl))); (first | rfl | (simp only [hb, hln, Bool.and_false, Bool.false_and, Bool.not_true, Bool.not_false, decide_true, decide_false, Bool.or_true, Bool.true_or, not_true_eq_false, not_false_eq_true, Bool.and_true, Bool.true_and]; done)); rfl))); done)); (focus kernel_rfl); (focus (first | (apply okPairs_kinds; (focus ((repeat (first | exact Kinds.nil | (apply Kinds.ro; (first | exact RoT.zero | exact RoT.rd | exact RoT.all | exact RoT.rdTr _ | assumption)) | apply Kinds.any)); done)); decide +kernel) | kernel_rfl)))
     | (refine V.cond rfl (fun h => ?_) (fun h => ?_) <;> (try simp only [decide_eq_true_eq, decide_eq_false_iff_not, Bool.and_eq_true, Bool.or_eq_true, Bool.and_eq_false_iff, Bool.or_eq_false_iff, Bool.not_eq_true', Bool.not_eq_false', Bool.not_true, Bool.not_false, Classical.not_not, Int.not_lt, Int.not_le, reduceCtorEq, not_true_eq_false, not_false_eq_true, decide_true, decide_false, Int.reduceEq, Int.reduceLT, Int.reduceLE] at h) <;> (try (exfalso; omega)))
     | (refine FnQ.normal (res0 Try.results12) rfl ?_; (try dsimp only))
     | (refine FnQ.ret (res0 Try.results12) rfl ?_; (try dsimp only))
     | (refine FnQ.ret (res1 Try.results12) (by simp only [Nat.reduceDiv, Nat.reduceMod, get_nth, nth_zero, nth_succ]; rfl) ?_; (try dsimp only))
     | (refine FnQ.ret (res2 Try.results12) (by simp only [Nat.reduceDiv, Nat.reduceMod, get_nth, nth_zero, nth_succ]; rfl) ?_; (try dsimp only))
     | (refine FnQ.retB (resc Try.results12) (by simp only [cellR_op, hb, hln, go_sem, Nat.reduceDiv, Nat.reduceMod, Nat.reduceAdd, Nat.reduceSub, Nat.reduceEqDiff, Nat.reduceLeDiff, Nat.reduceLT, Nat.reduceMul, reduceIte, Nat.reducePow, Int.reduceEq, List.toList_toArray]; rfl) ?_; (try dsimp only))
     | (refine FnQ.retB (resct Try.results12) (by simp only [cellR_op, hb, hln, go_sem, Nat.reduceDiv, Nat.reduceMod, Nat.reduceAdd, Nat.reduceSub, Nat.reduceEqDiff, Nat.reduceLeDiff, Nat.reduceLT, Nat.reduceMul, reduceIte, Nat.reducePow, Int.reduceEq, List.toList_toArray]; rfl) ?_; (try dsimp only)))
    rw [e]
    exact ⟨hT, hP', rfl⟩
  · obtain ⟨R, H1, ⟨hT, hP', hE⟩, hc⟩ := WC.eff (ys := ys) (lo := lo) rfl (csis_wc hlo hP r hr ht)
    repeat' (first
     | apply V.sq
     | apply V.bl
     | apply V.sc
     | apply V.skip
     | apply V.label
     | apply V.ret
     | apply V.exit
     | apply SeqQ.normal
     | apply SeqQ.ret
     | apply SeqQ.exit
     | apply BlockQ.normal
     | apply BlockQ.ret
     | apply BlockQ.here
     | (apply BlockQ.there; decide)
     | apply LoopS.ret
     | apply LoopS.exit
     | apply LoopF.ret
     | apply LoopF.exit
     | (apply V.reg; (focus ((repeat (first
     | exact RO.nil
     | (apply RO.op; rfl; (simp only [hb, hln, go_sem, Nat.reduceDiv, Nat.reduceMod, Nat.reduceAdd, Nat.reduceSub, Nat.reduceEqDiff, Nat.reduceLeDiff, Nat.reduceLT, Nat.reduceMul, reduceIte, Nat.reducePow, Int.reduceEq, List.toList_toArray]; (first | rfl | (apply ite_ok; (first | assumption | rfl | omega | (refine ⟨?_, ?_⟩ <;> omega)); rfl))); rfl)
     | (apply RO.opg; (first | (apply wantT; rfl; rfl; (simp only [Nat.reduceDiv, Nat.reduceMod, get_nth, nth_zero, nth_succ]; rfl)) | (apply wantF; rfl; rfl; (simp only [Nat.reduceDiv, Nat.reduceMod, get_nth, nth_zero, nth_succ]; rfl)) | (apply wantTg; rfl; rfl; (simp only [Nat.reduceDiv, Nat.reduceMod, get_nth, nth_zero, nth_succ]; rfl)) | (apply wantFg; rfl; rfl; (simp only [Nat.reduceDiv, Nat.reduceMod, get_nth, nth_zero, nth_succ]; rfl)) | (apply wantU; rfl; rfl; (simp only [Nat.reduceDiv, Nat.reduceMod, get_nth, nth_zero, nth_succ]; rfl))); (intro h; (try simp only [Bool.and_eq_true, Bool.not_eq_true', Bool.not_eq_eq_eq_not, Bool.not_true] at h); simp only [h, hb, hln, go_sem, Nat.reduceDiv, Nat.reduceMod, Nat.reduceAdd, Nat.reduceSub, Nat.reduceEqDiff, Nat.reduceLeDiff, Nat.reduceLT, Nat.reduceMul, reduceIte, Nat.reducePow, Int.reduceEq, List.toList_toArray]; (first | rfl | (apply ite_ok; (first | assumption | rfl | omega | (refine ⟨?_, ?_⟩ <;> omega)); rfl))); rfl)
     | (apply RO.call; exact want0 rfl; (simp only [hb, hln, go_sem, Nat.reduceDiv, Nat.reduceMod, Nat.reduceAdd, Nat.reduceSub, Nat.reduceEqDiff, Nat.reduceLeDiff, Nat.reduceLT, Nat.reduceMul, reduceIte, Nat.reducePow, Int.reduceEq, List.toList_toArray]; rfl); (first | (apply hc <;> (first | assumption | rfl | omega | (refine ⟨?_, ?_⟩ <;> omega)))); rfl)
     | (apply RO.callg; (first | (apply wantT; rfl; rfl; (simp only [Nat.reduceDiv, Nat.reduceMod, get_nth, nth_zero, nth_succ]; rfl)) | (apply wantF; rfl; rfl; (simp only [Nat.reduceDiv, Nat.reduceMod, get_nth, nth_zero, nth_succ]; rfl)) | (apply wantTg; rfl; rfl; (simp only [Nat.reduceDiv, Nat.reduceMod, get_nth, nth_zero, nth_succ]; rfl)) | (apply wantFg; rfl; rfl; (simp only [Nat.reduceDiv, Nat.reduceMod, get_nth, nth_zero, nth_succ]; rfl)) | (apply wantU; rfl; rfl; (simp only [Nat.reduceDiv, Nat.reduceMod, get_nth, nth_zero, nth_succ]; rfl))); (intro h; (try simp only [Bool.and_eq_true, Bool.not_eq_true', Bool.not_eq_eq_eq_not, Bool.not_true] at h); simp only [h, hb, hln, go_sem, Nat.reduceDiv, Nat.reduceMod, Nat.reduceAdd, Nat.reduceSub, Nat.reduceEqDiff, Nat.reduceLeDiff, Nat.reduceLT, Nat.reduceMul, reduceIte, Nat.reducePow, Int.reduceEq, List.toList_toArray]; rfl); (intro h; (try simp only [Bool.and_eq_true, Bool.not_eq_true', Bool.not_eq_eq_eq_not, Bool.not_true] at h); (first | (apply hc <;> (first | assumption | rfl | omega | (refine ⟨?_, ?_⟩ <;> omega))))); rfl)
     | (apply RO.no; apply wantNo; (first | (apply wantT; rfl; rfl; (simp only [Nat.reduceDiv, Nat.reduceMod, get_nth, nth_zero, nth_succ]; rfl)) | (apply wantF; rfl; rfl; (simp only [Nat.reduceDiv, Nat.reduceMod, get_nth, nth_zero, nth_succ]; rfl)) | (apply wantTg; rfl; rfl; (simp only [Nat.reduceDiv, Nat.reduceMod, get_nth, nth_zero, nth_succ]; rfl)) | (apply wantFg; rfl; rfl; (simp only [Nat.reduceDiv, Nat.reduceMod, get_nth, nth_zero, nth_succ]; rfl)) | (apply wantU; rfl; rfl; (simp only [Nat.reduceDiv, Nat.reduceMod, get_nth, nth_zero, nth_succ]; rfl))); (first | rfl | (simp only [hb, hln, Bool.and_false, Bool.false_and, Bool.not_true, Bool.not_false, decide_true, decide_false, Bool.or_true, Bool.true_or, not_true_eq_false, not_false_eq_true, Bool.and_true, Bool.true_and]; done)); rfl))); done)))
     | (apply V.regd; (focus ((repeat (first
     | exact RO.nil
     | (apply RO.op; rfl; (simp only [hb, hln, go_sem, Nat.reduceDiv, Nat.reduceMod, Nat.reduceAdd, Nat.reduceSub, Nat.reduceEqDiff, Nat.reduceLeDiff, Nat.reduceLT, Nat.reduceMul, reduceIte, Nat.reducePow, Int.reduceEq, List.toList_toArray]; (first | rfl | (apply ite_ok; (first | assumption | rfl | omega | (refine ⟨?_, ?_⟩ <;> omega)); rfl))); rfl)
     | (apply RO.opg; (first | (apply wantT; rfl; rfl; (simp only [Nat.reduceDiv, Nat.reduceMod, get_nth, nth_zero, nth_succ]; rfl)) | (apply wantF; rfl; rfl; (simp only [Nat.reduceDiv, Nat.reduceMod, get_nth, nth_zero, nth_succ]; rfl)) | (apply wantTg; rfl; rfl; (simp only [Nat.reduceDiv, Nat.reduceMod, get_nth, nth_zero, nth_succ]; rfl)) | (apply wantFg; rfl; rfl; (simp only [Nat.reduceDiv, Nat.reduceMod, get_nth, nth_zero, nth_succ]; rfl)) | (apply wantU; rfl; rfl; (simp only [Nat.reduceDiv, Nat.reduceMod, get_nth, nth_zero, nth_succ]; rfl))); (intro h; (try simp only [Bool.and_eq_true, Bool.not_eq_true', Bool.not_eq_eq_eq_not, Bool.not_true] at h); simp only [h, hb, hln, go_sem, Nat.reduceDiv, Nat.reduceMod, Nat.reduceAdd, Nat.reduceSub, Nat.reduceEqDiff, Nat.reduceLeDiff, Nat.reduceLT, Nat.reduceMul, reduceIte, Nat.reducePow, Int.reduceEq, List.toList_toArray]; (first | rfl | (apply ite_ok; (first | assumption | rfl | omega | (refine ⟨?_, ?_⟩ <;> omega)); rfl))); rfl)
     | (apply RO.call; exact want0 rfl; (simp only [hb, hln, go_sem, Nat.reduceDiv, Nat.reduceMod, Nat.reduceAdd, Nat.reduceSub, Nat.reduceEqDiff, Nat.reduceLeDiff, Nat.reduceLT, Nat.reduceMul, reduceIte, Nat.reducePow, Int.reduceEq, List.toList_toArray]; rfl); (first | (apply hc <;> (first | assumption | rfl | omega | (refine ⟨?_, ?_⟩ <;> omega)))); rfl)
     | (apply RO.callg; (first | (apply wantT; rfl; rfl; (simp only [Nat.reduceDiv, Nat.reduceMod, get_nth, nth_zero, nth_succ]; rfl)) | (apply wantF; rfl; rfl; (simp only [Nat.reduceDiv, Nat.reduceMod, get_nth, nth_zero, nth_succ]; rfl)) | (apply wantTg; rfl; rfl; (simp only [Nat.reduceDiv, Nat.reduceMod, get_nth, nth_zero, nth_succ]; rfl)) | (apply wantFg; rfl; rfl; (simp only [Nat.reduceDiv, Nat.reduceMod, get_nth, nth_zero, nth_succ]; rfl)) | (apply wantU; rfl; rfl; (simp only [Nat.reduceDiv, Nat.reduceMod, get_nth, nth_zero, nth_succ]; rfl))); (intro h; (try simp only [Bool.and_eq_true, Bool.not_eq_true', Bool.not_eq_eq_eq_not, Bool.not_true] at h); simp only [h, hb, hln, go_sem, Nat.reduceDiv, Nat.reduceMod, Nat.reduceAdd, Nat.reduceSub, Nat.reduceEqDiff, Nat.reduceLeDiff, Nat.reduceLT, Nat.reduceMul, reduceIte, Nat.reducePow, Int.reduceEq, List.toList_toArray]; rfl); (intro h; (try simp only [Bool.and_eq_true, Bool.not_eq_true', Bool.not_eq_eq_eq_not, Bool.not_true] at h); (first | (apply hc <;> (first | assumption | rfl | omega | (refine ⟨?_, ?_⟩ <;> omega))))); rfl)
     | (apply RO.no; apply wantNo; (first | (apply wantT; rfl; rfl; (simp only [Nat.reduceDiv, Nat.reduceMod, get_nth, nth_zero, nth_succ]; rfl)) | (apply wantF; rfl; rfl; (simp only [Nat.reduceDiv, Nat.reduceMod, get_nth, nth_zero, nth_succ]; rfl)) | (apply wantTg; rfl; rfl; (simp only [Nat.reduceDiv, Nat.reduceMod, get_nth, nth_zero, nth_succ]; rfl)) | (apply wantFg; rfl; rfl; (simp only [Nat.reduceDiv, Nat.reduceMod, get_nth, nth_zero, nth_succ]; rfl)) | (apply wantU; rfl; rfl; (simp only [Nat.reduceDiv, Nat.reduceMod, get_nth, nth_zero, nth_succ]; rfl))); (first | rfl | (simp only [hb, hln, Bool.and_false, Bool.false_and, Bool.not_true, Bool.not_false, decide_true, decide_false, Bool.or_true, Bool.true_or, not_true_eq_false, not_false_eq_true, Bool.and_true, Bool.true_and]; done)); rfl))); done)); (focus kernel_rfl); (focus (first | (apply okPairs_kinds; (focus ((repeat (first | exact Kinds.nil | (apply Kinds.ro; (first | exact RoT.zero | exact RoT.rd | exact RoT.all | exact RoT.rdTr _ | assumption)) | apply Kinds.any)); done)); decide +kernel) | kernel_rfl)))
     | (refine V.cond rfl (fun h => ?_) (fun h => ?_) <;> (try simp only [decide_eq_true_eq, decide_eq_false_iff_not, Bool.and_eq_true, Bool.or_eq_true, Bool.and_eq_false_iff, Bool.or_eq_false_iff, Bool.not_eq_true', Bool.not_eq_false', Bool.not_true, Bool.not_false, Classical.not_not, Int.not_lt, Int.not_le, reduceCtorEq, not_true_eq_false, not_false_eq_true, decide_true, decide_false, Int.reduceEq, Int.reduceLT, Int.reduceLE] at h) <;> (try (exfalso; omega)))
     | (refine FnQ.normal (res0 Try.results12) rfl ?_; (try dsimp only))
     | (refine FnQ.ret (res0 Try.results12) rfl ?_; (try dsimp only))
     | (refine FnQ.ret (res1 Try.results12) (by simp only [Nat.reduceDiv, Nat.reduceMod, get_nth, nth_zero, nth_succ]; rfl) ?_; (try dsimp only))
     | (refine FnQ.ret (res2 Try.results12) (by simp only [Nat.reduceDiv, Nat.reduceMod, get_nth, nth_zero, nth_succ]; rfl) ?_; (try dsimp only))
     | (refine FnQ.retB (resc Try.results12) (by simp only [cellR_op, hb, hln, go_sem, Nat.reduceDiv, Nat.reduceMod, Nat.reduceAdd, Nat.reduceSub, Nat.reduceEqDiff, Nat.reduceLeDiff, Nat.reduceLT, Nat.reduceMul, reduceIte, Nat.reducePow, Int.reduceEq, List.toList_toArray]; rfl) ?_; (try dsimp only))
     | (refine FnQ.retB (resct Try.results12) (by simp only [cellR_op, hb, hln, go_sem, Nat.reduceDiv, Nat.reduceMod, Nat.reduceAdd, Nat.reduceSub, Nat.reduceEqDiff, Nat.reduceLeDiff, Nat.reduceLT, Nat.reduceMul, reduceIte, Nat.reducePow, Int.reduceEq, List.toList_toArray]; rfl) ?_; (try dsimp only)))
    exact ⟨hT, hP', hE⟩
  · obtain ⟨R, H1, ⟨hT, hP', hE⟩, hc⟩ := WC.eff (ys := ys) (lo := lo) rfl (oscs_wc hlo hFl hP r hr ht)
    repeat' (first
     | apply V.sq
     | apply V.bl
     | apply V.sc
     | apply V.skip
     | apply V.label
     | apply V.ret
     | apply V.exit
     | apply SeqQ.normal
     | apply SeqQ.ret
     | apply SeqQ.exit
     | apply BlockQ.normal
     | apply BlockQ.ret
     | apply BlockQ.here
     | (apply BlockQ.there; decide)
     | apply LoopS.ret
     | apply LoopS.exit
     | apply LoopF.ret
     | apply LoopF.exit
     | (apply V.reg; (focus ((repeat (first
     | exact RO.nil
     | (apply RO.op; rfl; (simp only [hb, hln, go_sem, Nat.reduceDiv, Nat.reduceMod, Nat.reduceAdd, Nat.reduceSub, Nat.reduceEqDiff, Nat.reduceLeDiff, Nat.reduceLT, Nat.reduceMul, reduceIte, Nat.reducePow, Int.reduceEq, List.toList_toArray]; (first | rfl | (apply ite_ok; (first | assumption | rfl | omega | (refine ⟨?_, ?_⟩ <;> omega)); rfl))); rfl)
     | (apply RO.opg; (first | (apply wantT; rfl; rfl; (simp only [Nat.reduceDiv, Nat.reduceMod, get_nth, nth_zero, nth_succ]; rfl)) | (apply wantF; rfl; rfl; (simp only [Nat.reduceDiv, Nat.reduceMod, get_nth, nth_zero, nth_succ]; rfl)) | (apply wantTg; rfl; rfl; (simp only [Nat.reduceDiv, Nat.reduceMod, get_nth, nth_zero, nth_succ]; rfl)) | (apply wantFg; rfl; rfl; (simp only [Nat.reduceDiv, Nat.reduceMod, get_nth, nth_zero, nth_succ]; rfl)) | (apply wantU; rfl; rfl; (simp only [Nat.reduceDiv, Nat.reduceMod, get_nth, nth_zero, nth_succ]; rfl))); (intro h; (try simp only [Bool.and_eq_true, Bool.not_eq_true', Bool.not_eq_eq_eq_not, Bool.not_true] at h); simp only [h, hb, hln, go_sem, Nat.reduceDiv, Nat.reduceMod, Nat.reduceAdd, Nat.reduceSub, Nat.reduceEqDiff, Nat.reduceLeDiff, Nat.reduceLT, Nat.reduceMul, reduceIte, Nat.reducePow, Int.reduceEq, List.toList_toArray]; (first | rfl | (apply ite_ok; (first | assumption | rfl | omega | (refine ⟨?_, ?_⟩ <;> omega)); rfl))); rfl)
     | (apply RO.call; exact want0 rfl; (simp only [hb, hln, go_sem, Nat.reduceDiv, Nat.reduceMod, Nat.reduceAdd, Nat.reduceSub, Nat.reduceEqDiff, Nat.reduceLeDiff, Nat.reduceLT, Nat.reduceMul, reduceIte, Nat.reducePow, Int.reduceEq, List.toList_toArray]; rfl); (first | (apply hc <;> (first | assumption | rfl | omega | (refine ⟨?_, ?_⟩ <;> omega)))); rfl)
     | (apply RO.callg; (first | (apply wantT; rfl; rfl; (simp only [Nat.reduceDiv, Nat.reduceMod, get_nth, nth_zero, nth_succ]; rfl)) | (apply wantF; rfl; rfl; (simp only [Nat.reduceDiv, Nat.reduceMod, get_nth, nth_zero, nth_succ]; rfl)) | (apply wantTg; rfl; rfl; (simp only [Nat.reduceDiv, Nat.reduceMod, get_nth, nth_zero, nth_succ]; rfl)) | (apply wantFg; rfl; rfl; (simp only [Nat.reduceDiv, Nat.reduceMod, get_nth, nth_zero, nth_succ]; rfl)) | (apply wantU; rfl; rfl; (simp only [Nat.reduceDiv, Nat.reduceMod, get_nth, nth_zero, nth_succ]; rfl))); (intro h; (try simp only [Bool.and_eq_true, Bool.not_eq_true', Bool.not_eq_eq_eq_not, Bool.not_true] at h); simp only [h, hb, hln, go_sem, Nat.reduceDiv, Nat.reduceMod, Nat.reduceAdd, Nat.reduceSub, Nat.reduceEqDiff, Nat.reduceLeDiff, Nat.reduceLT, Nat.reduceMul, reduceIte, Nat.reducePow, Int.reduceEq, List.toList_toArray]; rfl); (intro h; (try simp only [Bool.and_eq_true, Bool.not_eq_true', Bool.not_eq_eq_eq_not, Bool.not_true] at h); (first | (apply hc <;> (first | assumption | rfl | omega | (refine ⟨?_, ?_⟩ <;> omega))))); rfl)
     | (apply RO.no; apply wantNo; (first | (apply wantT; rfl; rfl; (simp only [Nat.reduceDiv, Nat.reduceMod, get_nth, nth_zero, nth_succ]; rfl)) | (apply wantF; rfl; rfl; (simp only [Nat.reduceDiv, Nat.reduceMod, get_nth, nth_zero, nth_succ]; rfl)) | (apply wantTg; rfl; rfl; (simp only [Nat.reduceDiv, Nat.reduceMod, get_nth, nth_zero, nth_succ]; rfl)) | (apply wantFg; rfl; rfl; (simp only [Nat.reduceDiv, Nat.reduceMod, get_nth, nth_zero, nth_succ]; rfl)) | (apply wantU; rfl; rfl; (simp only [Nat.reduceDiv, Nat.reduceMod, get_nth, nth_zero, nth_succ]; rfl))); (first | rfl | (simp only [hb, hln, Bool.and_false, Bool.false_and, Bool.not_true, Bool.not_false, decide_true, decide_false, Bool.or_true, Bool.true_or, not_true_eq_false, not_false_eq_true, Bool.and_true, Bool.true_and]; done)); rfl))); done)))
     | (apply V.regd; (focus ((repeat (first
     | exact RO.nil
     | (apply RO.op; rfl; (simp only [hb, hln, go_sem, Nat.reduceDiv, Nat.reduceMod, Nat.reduceAdd, Nat.reduceSub, Nat.reduceEqDiff, Nat.reduceLeDiff, Nat.reduceLT, Nat.reduceMul, reduceIte, Nat.reducePow, Int.reduceEq, List.toList_toArray]; (first | rfl | (apply ite_ok; (first | assumption | rfl | omega | (refine ⟨?_, ?_⟩ <;> omega)); rfl))); rfl)
     | (apply RO.opg; (first | (apply wantT; rfl; rfl; (simp only [Nat.reduceDiv, Nat.reduceMod, get_nth, nth_zero, nth_succ]; rfl)) | (apply wantF; rfl; rfl; (simp only [Nat.reduceDiv, Nat.reduceMod, get_nth, nth_zero, nth_succ]; rfl)) | (apply wantTg; rfl; rfl; (simp only [Nat.reduceDiv, Nat.reduceMod, get_nth, nth_zero, nth_succ]; rfl)) | (apply wantFg; rfl; rfl; (simp only [Nat.reduceDiv, Nat.reduceMod, get_nth, nth_zero, nth_succ]; rfl)) | (apply wantU; rfl; rfl; (simp only [Nat.reduceDiv, Nat.reduceMod, get_nth, nth_zero, nth_succ]; rfl))); (intro h; (try simp only [Bool.and_eq_true, Bool.not_eq_true', Bool.not_eq_eq_eq_not, Bool.not_true] at h); simp only [h, hb, hln, go_sem, Nat.reduceDiv, Nat.reduceMod, Nat.reduceAdd, Nat.reduceSub, Nat.reduceEqDiff, Nat.reduceLeDiff, Nat.reduceLT, Nat.reduceMul, reduceIte, Nat.reducePow, Int.reduceEq, List.toList_toArray]; (first | rfl | (apply ite_ok; (first | assumption | rfl | omega | (refine ⟨?_, ?_⟩ <;> omega)); rfl))); rfl)
     | (apply RO.call; exact want0 rfl; (simp only [hb, hln, go_sem, Nat.reduceDiv, Nat.reduceMod, Nat.reduceAdd, Nat.reduceSub, Nat.reduceEqDiff, Nat.reduceLeDiff, Nat.reduceLT, Nat.reduceMul, reduceIte, Nat.reducePow, Int.reduceEq, List.toList_toArray]; rfl); (first | (apply hc <;> (first | assumption | rfl | omega | (refine ⟨?_, ?_⟩ <;> omega)))); rfl)
     | (apply RO.callg; (first | (apply wantT; rfl; rfl; (simp only [Nat.reduceDiv, Nat.reduceMod, get_nth, nth_zero, nth_succ]; rfl)) | (apply wantF; rfl; rfl; (simp only [Nat.reduceDiv, Nat.reduceMod, get_nth, nth_zero, nth_succ]; rfl)) | (apply wantTg; rfl; rfl; (simp only [Nat.reduceDiv, Nat.reduceMod, get_nth, nth_zero, nth_succ]; rfl)) | (apply wantFg; rfl; rfl; (simp only [Nat.reduceDiv, Nat.reduceMod, get_nth, nth_zero, nth_succ]; rfl)) | (apply wantU; rfl; rfl; (simp only [Nat.reduceDiv, Nat.reduceMod, get_nth, nth_zero, nth_succ]; rfl))); (intro h; (try simp only [Bool.and_eq_true, Bool.not_eq_true', Bool.not_eq_eq_eq_not, Bool.not_true] at h); simp only [h, hb, hln, go_sem, Nat.reduceDiv, Nat.reduceMod, Nat.reduceAdd, Nat.reduceSub, Nat.reduceEqDiff, Nat.reduceLeDiff, Nat.reduceLT, Nat.reduceMul, reduceIte, Nat.reducePow, Int.reduceEq, List.toList_toArray]; rfl); (intro h; (try simp only [Bool.and_eq_true, Bool.not_eq_true', Bool.not_eq_eq_eq_not, Bool.not_true] at h); (first | (apply hc <;> (first | assumption | rfl | omega | (refine ⟨?_, ?_⟩ <;> omega))))); rfl)
     | (apply RO.no; apply wantNo; (first | (apply wantT; rfl; rfl; (simp only [Nat.reduceDiv, Nat.reduceMod, get_nth, nth_zero, nth_succ]; rfl)) | (apply wantF; rfl; rfl; (simp only [Nat.reduceDiv, Nat.reduceMod, get_nth, nth_zero, nth_succ]; rfl)) | (apply wantTg; rfl; rfl; (simp only [Nat.reduceDiv, Nat.reduceMod, get_nth, nth_zero, nth_succ]; rfl)) | (apply wantFg; rfl; rfl; (simp only [Nat.reduceDiv, Nat.reduceMod, get_nth, nth_zero, nth_succ]; rfl)) | (apply wantU; rfl; rfl; (simp only [Nat.reduceDiv, Nat.reduceMod, get_nth, nth_zero, nth_succ]; rfl))); (first | rfl | (simp only [hb, hln, Bool.and_false, Bool.false_and, Bool.not_true, Bool.not_false, decide_true, decide_false, Bool.or_true, Bool.true_or, not_true_eq_false, not_false_eq_true, Bool.and_true, Bool.true_and]; done)); rfl))); done)); (focus kernel_rfl); (focus (first | (apply okPairs_kinds; (focus ((repeat (first | exact Kinds.nil | (apply Kinds.ro; (first | exact RoT.zero | exact RoT.rd | exact RoT.all | exact RoT.rdTr _ | assumption)) | apply Kinds.any)); done)); decide +kernel) | kernel_rfl)))
     | (refine V.cond rfl (fun h => ?_) (fun h => ?_) <;> (try simp only [decide_eq_true_eq, decide_eq_false_iff_not, Bool.and_eq_true, Bool.or_eq_true, Bool.and_eq_false_iff, Bool.or_eq_false_iff, Bool.not_eq_true', Bool.not_eq_false', Bool.not_true, Bool.not_false, Classical.not_not, Int.not_lt, Int.not_le, reduceCtorEq, not_true_eq_false, not_false_eq_true, decide_true, decide_false, Int.reduceEq, Int.reduceLT, Int.reduceLE] at h) <;> (try (exfalso; omega)))
     | (refine FnQ.normal (res0 Try.results12) rfl ?_; (try dsimp only))
     | (refine FnQ.ret (res0 Try.results12) rfl ?_; (try dsimp only))
     | (refine FnQ.ret (res1 Try.results12) (by simp only [Nat.reduceDiv, Nat.reduceMod, get_nth, nth_zero, nth_succ]; rfl) ?_; (try dsimp only))
     | (refine FnQ.ret (res2 Try.results12) (by simp only [Nat.reduceDiv, Nat.reduceMod, get_nth, nth_zero, nth_succ]; rfl) ?_; (try dsimp only))
     | (refine FnQ.retB (resc Try.results12) (by simp only [cellR_op, hb, hln, go_sem, Nat.reduceDiv, Nat.reduceMod, Nat.reduceAdd, Nat.reduceSub, Nat.reduceEqDiff, Nat.reduceLeDiff, Nat.reduceLT, Nat.reduceMul, reduceIte, Nat.reducePow, Int.reduceEq, List.toList_toArray]; rfl) ?_; (try dsimp only))
     | (refine FnQ.retB (resct Try.results12) (by simp only [cellR_op, hb, hln, go_sem, Nat.reduceDiv, Nat.reduceMod, Nat.reduceAdd, Nat.reduceSub, Nat.reduceEqDiff, Nat.reduceLeDiff, Nat.reduceLT, Nat.reduceMul, reduceIte, Nat.reducePow, Int.reduceEq, List.toList_toArray]; rfl) ?_; (try dsimp only)))
    exact ⟨hT, hP', hE⟩
  · by_cases h92 : r = 92
    · subst h92
      obtain ⟨R, H1, ⟨hT, ⟨X', hP'⟩, hE⟩, hc⟩ := WC.eff (ys := ys) (lo := lo) rfl (told_wc hlo hP (.inr rfl))
      have e : put 4 t 92 = (0, t, oscEv t) := rfl
      repeat' (first
       | apply V.sq
       | apply V.bl
       | apply V.sc
       | apply V.skip
       | apply V.label
       | apply V.ret
       | apply V.exit
       | apply SeqQ.normal
       | apply SeqQ.ret
       | apply SeqQ.exit
       | apply BlockQ.normal
       | apply BlockQ.ret
       | apply BlockQ.here
       | (apply BlockQ.there; decide)
       | apply LoopS.ret
       | apply LoopS.exit
       | apply LoopF.ret
       | apply LoopF.exit
       | (apply V.reg; (focus ((repeat (first
       | exact RO.nil
       | (apply RO.op; rfl; (simp only [hb, hln, go_sem, Nat.reduceDiv, Nat.reduceMod, Nat.reduceAdd, Nat.reduceSub, Nat.reduceEqDiff, Nat.reduceLeDiff, Nat.reduceLT, Nat.reduceMul, reduceIte, Nat.reducePow, Int.reduceEq, List.toList_toArray]; (first | rfl | (apply ite_ok; (first | assumption | rfl | omega | (refine ⟨?_, ?_⟩ <;> omega)); rfl))); rfl)
       | (apply RO.opg; (first | (apply wantT; rfl; rfl; (simp only [Nat.reduceDiv, Nat.reduceMod, get_nth, nth_zero, nth_succ]; rfl)) | (apply wantF; rfl; rfl; (simp only [Nat.reduceDiv, Nat.reduceMod, get_nth, nth_zero, nth_succ]; rfl)) | (apply wantTg; rfl; rfl; (simp only [Nat.reduceDiv, Nat.reduceMod, get_nth, nth_zero, nth_succ]; rfl)) | (apply wantFg; rfl; rfl; (simp only [Nat.reduceDiv, Nat.reduceMod, get_nth, nth_zero, nth_succ]; rfl)) | (apply wantU; rfl; rfl; (simp only [Nat.reduceDiv, Nat.reduceMod, get_nth, nth_zero, nth_succ]; rfl))); (intro h; (try simp only [Bool.and_eq_true, Bool.not_eq_true', Bool.not_eq_eq_eq_not, Bool.not_true] at h); simp only [h, hb, hln, go_sem, Nat.reduceDiv, Nat.reduceMod, Nat.reduceAdd, Nat.reduceSub, Nat.reduceEqDiff, Nat.reduceLeDiff, Nat.reduceLT, Nat.reduceMul, reduceIte, Nat.reducePow, Int.reduceEq, List.toList_toArray]; (first | rfl | (apply ite_ok; (first | assumption | rfl | omega | (refine ⟨?_, ?_⟩ <;> omega)); rfl))); rfl)
       | (apply RO.call; exact want0 rfl; (simp only [hb, hln, go_sem, Nat.reduceDiv, Nat.reduceMod, Nat.reduceAdd, Nat.reduceSub, Nat.reduceEqDiff, Nat.reduceLeDiff, Nat.reduceLT, Nat.reduceMul, reduceIte, Nat.reducePow, Int.reduceEq, List.toList_toArray]; rfl); (first | (apply hc <;> (first | assumption | rfl | omega | (refine ⟨?_, ?_⟩ <;> omega)))); rfl)
       | (apply RO.callg; (first | (apply wantT; rfl; rfl; (simp only [Nat.reduceDiv, Nat.reduceMod, get_nth, nth_zero, nth_succ]; rfl)) | (apply wantF; rfl; rfl; (simp only [Nat.reduceDiv, Nat.reduceMod, get_nth, nth_zero, nth_succ]; rfl)) | (apply wantTg; rfl; rfl; (simp only [Nat.reduceDiv, Nat.reduceMod, get_nth, nth_zero, nth_succ]; rfl)) | (apply wantFg; rfl; rfl; (simp only [Nat.reduceDiv, Nat.reduceMod, get_nth, nth_zero, nth_succ]; rfl)) | (apply wantU; rfl; rfl; (simp only [Nat.reduceDiv, Nat.reduceMod, get_nth, nth_zero, nth_succ]; rfl))); (intro h; (try simp only [Bool.and_eq_true, Bool.not_eq_true', Bool.not_eq_eq_eq_not, Bool.not_true] at h); simp only [h, hb, hln, go_sem, Nat.reduceDiv, Nat.reduceMod, Nat.reduceAdd, Nat.reduceSub, Nat.reduceEqDiff, Nat.reduceLeDiff, Nat.reduceLT, Nat.reduceMul, reduceIte, Nat.reducePow, Int.reduceEq, List.toList_toArray]; rfl); (intro h; (try simp only [Bool.and_eq_true, Bool.not_eq_true', Bool.not_eq_eq_eq_not, Bool.not_true] at h); (first | (apply hc <;> (first | assumption | rfl | omega | (refine ⟨?_, ?_⟩ <;> omega))))); rfl)
       | (apply RO.no; apply wantNo; (first | (apply wantT; rfl; rfl; (simp only [Nat.reduceDiv, Nat.reduceMod, get_nth, nth_zero, nth_succ]; rfl)) | (apply wantF; rfl; rfl; (simp only [Nat.reduceDiv, Nat.reduceMod, get_nth, nth_zero, nth_succ]; rfl)) | (apply wantTg; rfl; rfl; (simp only [Nat.reduceDiv, Nat.reduceMod, get_nth, nth_zero, nth_succ]; rfl)) | (apply wantFg; rfl; rfl; (simp only [Nat.reduceDiv, Nat.reduceMod, get_nth, nth_zero, nth_succ]; rfl)) | (apply wantU; rfl; rfl; (simp only [Nat.reduceDiv, Nat.reduceMod, get_nth, nth_zero, nth_succ]; rfl))); (first | rfl | (simp only [hb, hln, Bool.and_false, Bool.false_and, Bool.not_true, Bool.not_false, decide_true, decide_false, Bool.or_true, Bool.true_or, not_true_eq_false, not_false_eq_true, Bool.and_true, Bool.true_and]; done)); rfl))); done)))
       | (apply V.regd; (focus ((repeat (first
       | exact RO.nil
       | (apply RO.op; rfl; (simp only [hb, hln, go_sem, Nat.reduceDiv, Nat.reduceMod, Nat.reduceAdd, Nat.reduceSub, Nat.reduceEqDiff, Nat.reduceLeDiff, Nat.reduceLT, Nat.reduceMul, reduceIte, Nat.reducePow, Int.reduceEq, List.toList_toArray]; (first | rfl | (apply ite_ok; (first | assumption | rfl | omega | (refine ⟨?_, ?_⟩ <;> omega)); rfl))); rfl)
       | (apply RO.opg; (first | (apply wantT; rfl; rfl; (simp only [Nat.reduceDiv, Nat.reduceMod, get_nth, nth_zero, nth_succ]; rfl)) | (apply wantF; rfl; rfl; (simp only [Nat.reduceDiv, Nat.reduceMod, get_nth, nth_zero, nth_succ]; rfl)) | (apply wantTg; rfl; rfl; (simp only [Nat.reduceDiv, Nat.reduceMod, get_nth, nth_zero, nth_succ]; rfl)) | (apply wantFg; rfl; rfl; (simp only [Nat.reduceDiv, Nat.reduceMod, get_nth, nth_zero, nth_succ]; rfl)) | (apply wantU; rfl; rfl; (simp only [Nat.reduceDiv, Nat.reduceMod, get_nth, nth_zero, nth_succ]; rfl))); (intro h; (try simp only [Bool.and_eq_true, Bool.not_eq_true', Bool.not_eq_eq_eq_not, Bool.not_true] at h); simp only [h, hb, hln, go_sem, Nat.reduceDiv, Nat.reduceMod, Nat.reduceAdd, Nat.reduceSub, Nat.reduceEqDiff, Nat.reduceLeDiff, Nat.reduceLT, Nat.reduceMul, reduceIte, Nat.reducePow, Int.reduceEq, List.toList_toArray]; (first | rfl | (apply ite_ok; (first | assumption | rfl | omega | (refine ⟨?_, ?_⟩ <;> omega)); rfl))); rfl)
       | (apply RO.call; exact want0 rfl; (simp only [hb, hln, go_sem, Nat.reduceDiv, Nat.reduceMod, Nat.reduceAdd, Nat.reduceSub, Nat.reduceEqDiff, Nat.reduceLeDiff, Nat.reduceLT, Nat.reduceMul, reduceIte, Nat.reducePow, Int.reduceEq, List.toList_toArray]; rfl); (first | (apply hc <;> (first | assumption | rfl | omega | (refine ⟨?_, ?_⟩ <;> omega)))); rfl)
       | (apply RO.callg; (first | (apply wantT; rfl; rfl; (simp only [Nat.reduceDiv, Nat.reduceMod, get_nth, nth_zero, nth_succ]; rfl)) | (apply wantF; rfl; rfl; (simp only [Nat.reduceDiv, Nat.reduceMod, get_nth, nth_zero, nth_succ]; rfl)) | (apply wantTg; rfl; rfl; (simp only [Nat.reduceDiv, Nat.reduceMod, get_nth, nth_zero, nth_succ]; rfl)) | (apply wantFg; rfl; rfl; (simp only [Nat.reduceDiv, Nat.reduceMod, get_nth, nth_zero, nth_succ]; rfl)) | (apply wantU; rfl; rfl; (simp only [Nat.reduceDiv, Nat.reduceMod, get_nth, nth_zero, nth_succ]; rfl))); (intro h; (try simp only [Bool.and_eq_true, Bool.not_eq_true', Bool.not_eq_eq_eq_not, Bool.not_true] at h); simp only [h, hb, hln, go_sem, Nat.reduceDiv, Nat.reduceMod, Nat.reduceAdd, Nat.reduceSub, Nat.reduceEqDiff, Nat.reduceLeDiff, Nat.reduceLT, Nat.reduceMul, reduceIte, Nat.reducePow, Int.reduceEq, List.toList_toArray]; rfl); (intro h; (try simp only [Bool.and_eq_true, Bool.not_eq_true', Bool.not_eq_eq_eq_not, Bool.not_true] at h); (first | (apply hc <;> (first | assumption | rfl | omega | (refine ⟨?_, ?_⟩ <;> omega))))); rfl)
       | (apply RO.no; apply wantNo; (first | (apply wantT; rfl; rfl; (simp only [Nat.reduceDiv, Nat.reduceMod, get_nth, nth_zero, nth_succ]; rfl)) | (apply wantF; rfl; rfl; (simp only [Nat.reduceDiv, Nat.reduceMod, get_nth, nth_zero, nth_succ]; rfl)) | (apply wantTg; rfl; rfl; (simp only [Nat.reduceDiv, Nat.reduceMod, get_nth, nth_zero, nth_succ]; rfl)) | (apply wantFg; rfl; rfl; (simp only [Nat.reduceDiv, Nat.reduceMod, get_nth, nth_zero, nth_succ]; rfl)) | (apply wantU; rfl; rfl; (simp only [Nat.reduceDiv, Nat.reduceMod, get_nth, nth_zero, nth_succ]; rfl))); (first | rfl | (simp only [hb, hln, Bool.and_false, Bool.false_and, Bool.not_true, Bool.not_false, decide_true, decide_false, Bool.or_true, Bool.true_or, not_true_eq_false, not_false_eq_true, Bool.and_true, Bool.true_and]; done)); rfl))); done)); (focus kernel_rfl); (focus (first | (apply okPairs_kinds; (focus ((repeat (first | exact Kinds.nil | (apply Kinds.ro; (first | exact RoT.zero | exact RoT.rd | exact RoT.all | exact RoT.rdTr _ | assumption)) | apply Kinds.any)); done)); decide +kernel) | kernel_rfl)))
       | (refine V.cond rfl (fun h => ?_) (fun h => ?_) <;> (try simp only [decide_eq_true_eq, decide_eq_false_iff_not, Bool.and_eq_true, Bool.or_eq_true, Bool.and_eq_false_iff, Bool.or_eq_false_iff, Bool.not_eq_true', Bool.not_eq_false', Bool.not_true, Bool.not_false, Classical.not_not, Int.not_lt, Int.not_le, reduceCtorEq, not_true_eq_false, not_false_eq_true, decide_true, decide_false, Int.reduceEq, Int.reduceLT, Int.reduceLE] at h) <;> (try (exfalso; omega)))
       | (refine FnQ.normal (res0 Try.results12) rfl ?_; (try dsimp only))
       | (refine FnQ.ret (res0 Try.results12) rfl ?_; (try dsimp only))
       | (refine FnQ.ret (res1 Try.results12) (by simp only [Nat.reduceDiv, Nat.reduceMod, get_nth, nth_zero, nth_succ]; rfl) ?_; (try dsimp only))
       | (refine FnQ.ret (res2 Try.results12) (by simp only [Nat.reduceDiv, Nat.reduceMod, get_nth, nth_zero, nth_succ]; rfl) ?_; (try dsimp only))
       | (refine FnQ.retB (resc Try.results12) (by simp only [cellR_op, hb, hln, go_sem, Nat.reduceDiv, Nat.reduceMod, Nat.reduceAdd, Nat.reduceSub, Nat.reduceEqDiff, Nat.reduceLeDiff, Nat.reduceLT, Nat.reduceMul, reduceIte, Nat.reducePow, Int.reduceEq, List.toList_toArray]; rfl) ?_; (try dsimp only))
       | (refine FnQ.retB (resct Try.results12) (by simp only [cellR_op, hb, hln, go_sem, Nat.reduceDiv, Nat.reduceMod, Nat.reduceAdd, Nat.reduceSub, Nat.reduceEqDiff, Nat.reduceLeDiff, Nat.reduceLT, Nat.reduceMul, reduceIte, Nat.reducePow, Int.reduceEq, List.toList_toArray]; rfl) ?_; (try dsimp only)))
      rw [e]
      exact ⟨hT, ⟨_, _, _, _, hP'⟩, hE⟩
    · have hP1 := (hP.st 1 (t' := t) (.inr (.inl rfl)) (fun k (h : F k) => h) : PP _ F n 1 t A any sp X)
      obtain ⟨R, H1, ⟨hT, A', any', sp', X', hP'⟩, hc⟩ := WC.eff (ys := ys) (lo := lo) rfl (escapes_wc hlo hP1 r)
      have e : put 4 t r = (if r = 91 then 2 else if r = 93 then 3 else if r = 27 then 1 else 0, [], none) := by unfold put; rw [if_neg (by omega), if_pos (.inl rfl)]
      repeat' (first
       | apply V.sq
       | apply V.bl
       | apply V.sc
       | apply V.skip
       | apply V.label
       | apply V.ret
       | apply V.exit
       | apply SeqQ.normal
       | apply SeqQ.ret
       | apply SeqQ.exit
       | apply BlockQ.normal
       | apply BlockQ.ret
       | apply BlockQ.here
       | (apply BlockQ.there; decide)
       | apply LoopS.ret
       | apply LoopS.exit
       | apply LoopF.ret
       | apply LoopF.exit
       | (apply V.reg; (focus ((repeat (first
       | exact RO.nil
       | (apply RO.op; rfl; (simp only [hb, hln, go_sem, Nat.reduceDiv, Nat.reduceMod, Nat.reduceAdd, Nat.reduceSub, Nat.reduceEqDiff, Nat.reduceLeDiff, Nat.reduceLT, Nat.reduceMul, reduceIte, Nat.reducePow, Int.reduceEq, List.toList_toArray]; (first | rfl | (apply ite_ok; (first | assumption | rfl | omega | (refine ⟨?_, ?_⟩ <;> omega)); rfl))); rfl)
       | (apply RO.opg; (first | (apply wantT; rfl; rfl; (simp only [Nat.reduceDiv, Nat.reduceMod, get_nth, nth_zero, nth_succ]; rfl)) | (apply wantF; rfl; rfl; (simp only [Nat.reduceDiv, Nat.reduceMod, get_nth, nth_zero, nth_succ]; rfl)) | (apply wantTg; rfl; rfl; (simp only [Nat.reduceDiv, Nat.reduceMod, get_nth, nth_zero, nth_succ]; rfl)) | (apply wantFg; rfl; rfl; (simp only [Nat.reduceDiv, Nat.reduceMod, get_nth, nth_zero, nth_succ]; rfl)) | (apply wantU; rfl; rfl; (simp only [Nat.reduceDiv, Nat.reduceMod, get_nth, nth_zero, nth_succ]; rfl))); (intro h; (try simp only [Bool.and_eq_true, Bool.not_eq_true', Bool.not_eq_eq_eq_not, Bool.not_true] at h); simp only [h, hb, hln, go_sem, Nat.reduceDiv, Nat.reduceMod, Nat.reduceAdd, Nat.reduceSub, Nat.reduceEqDiff, Nat.reduceLeDiff, Nat.reduceLT, Nat.reduceMul, reduceIte, Nat.reducePow, Int.reduceEq, List.toList_toArray]; (first | rfl | (apply ite_ok; (first | assumption | rfl | omega | (refine ⟨?_, ?_⟩ <;> omega)); rfl))); rfl)
       | (apply RO.call; exact want0 rfl; (simp only [hb, hln, go_sem, Nat.reduceDiv, Nat.reduceMod, Nat.reduceAdd, Nat.reduceSub, Nat.reduceEqDiff, Nat.reduceLeDiff, Nat.reduceLT, Nat.reduceMul, reduceIte, Nat.reducePow, Int.reduceEq, List.toList_toArray]; rfl); (first | (apply hc <;> (first | assumption | rfl | omega | (refine ⟨?_, ?_⟩ <;> omega)))); rfl)
       | (apply RO.callg; (first | (apply wantT; rfl; rfl; (simp only [Nat.reduceDiv, Nat.reduceMod, get_nth, nth_zero, nth_succ]; rfl)) | (apply wantF; rfl; rfl; (simp only [Nat.reduceDiv, Nat.reduceMod, get_nth, nth_zero, nth_succ]; rfl)) | (apply wantTg; rfl; rfl; (simp only [Nat.reduceDiv, Nat.reduceMod, get_nth, nth_zero, nth_succ]; rfl)) | (apply wantFg; rfl; rfl; (simp only [Nat.reduceDiv, Nat.reduceMod, get_nth, nth_zero, nth_succ]; rfl)) | (apply wantU; rfl; rfl; (simp only [Nat.reduceDiv, Nat.reduceMod, get_nth, nth_zero, nth_succ]; rfl))); (intro h; (try simp only [Bool.and_eq_true, Bool.not_eq_true', Bool.not_eq_eq_eq_not, Bool.not_true] at h); simp only [h, hb, hln, go_sem, Nat.reduceDiv, Nat.reduceMod, Nat.reduceAdd, Nat.reduceSub, Nat.reduceEqDiff, Nat.reduceLeDiff, Nat.reduceLT, Nat.reduceMul, reduceIte, Nat.reducePow, Int.reduceEq, List.toList_toArray]; rfl); (intro h; (try simp only [Bool.and_eq_true, Bool.not_eq_true', Bool.not_eq_eq_eq_not, Bool.not_true] at h); (first | (apply hc <;> (first | assumption | rfl | omega | (refine ⟨?_, ?_⟩ <;> omega))))); rfl)
       | (apply RO.no; apply wantNo; (first | (apply wantT; rfl; rfl; (simp only [Nat.reduceDiv, Nat.reduceMod, get_nth, nth_zero, nth_succ]; rfl)) | (apply wantF; rfl; rfl; (simp only [Nat.reduceDiv, Nat.reduceMod, get_nth, nth_zero, nth_succ]; rfl)) | (apply wantTg; rfl; rfl; (simp only [Nat.reduceDiv, Nat.reduceMod, get_nth, nth_zero, nth_succ]; rfl)) | (apply wantFg; rfl; rfl; (simp only [Nat.reduceDiv, Nat.reduceMod, get_nth, nth_zero, nth_succ]; rfl)) | (apply wantU; rfl; rfl; (simp only [Nat.reduceDiv, Nat.reduceMod, get_nth, nth_zero, nth_succ]; rfl))); (first | rfl | (simp only [hb, hln, Bool.and_false, Bool.false_and, Bool.not_true, Bool.not_false, decide_true, decide_false, Bool.or_true, Bool.true_or, not_true_eq_false, not_false_eq_true, Bool.and_true, Bool.true_and]; done)); rfl))); done)))
       | (apply V.regd; (focus ((repeat (first
       | exact RO.nil
       | (apply RO.op; rfl; (simp only [hb, hln, go_sem, Nat.reduceDiv, Nat.reduceMod, Nat.reduceAdd, Nat.reduceSub, Nat.reduceEqDiff, Nat.reduceLeDiff, Nat.reduceLT, Nat.reduceMul, reduceIte, Nat.reducePow, Int.reduceEq, List.toList_toArray]; (first | rfl | (apply ite_ok; (first | assumption | rfl | omega | (refine ⟨?_, ?_⟩ <;> omega)); rfl))); rfl)
       | (apply RO.opg; (first | (apply wantT; rfl; rfl; (simp only [Nat.reduceDiv, Nat.reduceMod, get_nth, nth_zero, nth_succ]; rfl)) | (apply wantF; rfl; rfl; (simp only [Nat.reduceDiv, Nat.reduceMod, get_nth, nth_zero, nth_succ]; rfl)) | (apply wantTg; rfl; rfl; (simp only [Nat.reduceDiv, Nat.reduceMod, get_nth, nth_zero, nth_succ]; rfl)) | (apply wantFg; rfl; rfl; (simp only [Nat.reduceDiv, Nat.reduceMod, get_nth, nth_zero, nth_succ]; rfl)) | (apply wantU; rfl; rfl; (simp only [Nat.reduceDiv, Nat.reduceMod, get_nth, nth_zero, nth_succ]; rfl))); (intro h; (try simp only [Bool.and_eq_true, Bool.not_eq_true', Bool.not_eq_eq_eq_not, Bool.not_true] at h); simp only [h, hb, hln, go_sem, Nat.reduceDiv, Nat.reduceMod, Nat.reduceAdd, Nat.reduceSub, Nat.reduceEqDiff, Nat.reduceLeDiff, Nat.reduceLT, Nat.reduceMul, reduceIte, Nat.reducePow, Int.reduceEq, List.toList_toArray]; (first | rfl | (apply ite_ok; (first | assumption | rfl | omega | (refine ⟨?_, ?_⟩ <;> omega)); rfl))); rfl)
       | (apply RO.call; exact want0 rfl; (simp only [hb, hln, go_sem, Nat.reduceDiv, Nat.reduceMod, Nat.reduceAdd, Nat.reduceSub, Nat.reduceEqDiff, Nat.reduceLeDiff, Nat.reduceLT, Nat.reduceMul, reduceIte, Nat.reducePow, Int.reduceEq, List.toList_toArray]; rfl); (first | (apply hc <;> (first | assumption | rfl | omega | (refine ⟨?_, ?_⟩ <;> omega)))); rfl)
       | (apply RO.callg; (first | (apply wantT; rfl; rfl; (simp only [Nat.reduceDiv, Nat.reduceMod, get_nth, nth_zero, nth_succ]; rfl)) | (apply wantF; rfl; rfl; (simp only [Nat.reduceDiv, Nat.reduceMod, get_nth, nth_zero, nth_succ]; rfl)) | (apply wantTg; rfl; rfl; (simp only [Nat.reduceDiv, Nat.reduceMod, get_nth, nth_zero, nth_succ]; rfl)) | (apply wantFg; rfl; rfl; (simp only [Nat.reduceDiv, Nat.reduceMod, get_nth, nth_zero, nth_succ]; rfl)) | (apply wantU; rfl; rfl; (simp only [Nat.reduceDiv, Nat.reduceMod, get_nth, nth_zero, nth_succ]; rfl))); (intro h; (try simp only [Bool.and_eq_true, Bool.not_eq_true', Bool.not_eq_eq_eq_not, Bool.not_true] at h); simp only [h, hb, hln, go_sem, Nat.reduceDiv, Nat.reduceMod, Nat.reduceAdd, Nat.reduceSub, Nat.reduceEqDiff, Nat.reduceLeDiff, Nat.reduceLT, Nat.reduceMul, reduceIte, Nat.reducePow, Int.reduceEq, List.toList_toArray]; rfl); (intro h; (try simp only [Bool.and_eq_true, Bool.not_eq_true', Bool.not_eq_eq_eq_not, Bool.not_true] at h); (first | (apply hc <;> (first | assumption | rfl | omega | (refine ⟨?_, ?_⟩ <;> omega))))); rfl)
       | (apply RO.no; apply wantNo; (first | (apply wantT; rfl; rfl; (simp only [Nat.reduceDiv, Nat.reduceMod, get_nth, nth_zero, nth_succ]; rfl)) | (apply wantF; rfl; rfl; (simp only [Nat.reduceDiv, Nat.reduceMod, get_nth, nth_zero, nth_succ]; rfl)) | (apply wantTg; rfl; rfl; (simp only [Nat.reduceDiv, Nat.reduceMod, get_nth, nth_zero, nth_succ]; rfl)) | (apply wantFg; rfl; rfl; (simp only [Nat.reduceDiv, Nat.reduceMod, get_nth, nth_zero, nth_succ]; rfl)) | (apply wantU; rfl; rfl; (simp only [Nat.reduceDiv, Nat.reduceMod, get_nth, nth_zero, nth_succ]; rfl))); (first | rfl | (simp only [hb, hln, Bool.and_false, Bool.false_and, Bool.not_true, Bool.not_false, decide_true, decide_false, Bool.or_true, Bool.true_or, not_true_eq_false, not_false_eq_true, Bool.and_true, Bool.true_and]; done)); rfl))); done)); (focus kernel_rfl); (focus (first | (apply okPairs_kinds; (focus ((repeat (first | exact Kinds.nil | (apply Kinds.ro; (first | exact RoT.zero | exact RoT.rd | exact RoT.all | exact RoT.rdTr _ | assumption)) | apply Kinds.any)); done)); decide +kernel) | kernel_rfl)))
       | (refine V.cond rfl (fun h => ?_) (fun h => ?_) <;> (try simp only [decide_eq_true_eq, decide_eq_false_iff_not, Bool.and_eq_true, Bool.or_eq_true, Bool.and_eq_false_iff, Bool.or_eq_false_iff, Bool.not_eq_true', Bool.not_eq_false', Bool.not_true, Bool.not_false, Classical.not_not, Int.not_lt, Int.not_le, reduceCtorEq, not_true_eq_false, not_false_eq_true, decide_true, decide_false, Int.reduceEq, Int.reduceLT, Int.reduceLE] at h) <;> (try (exfalso; omega)))
       | (refine FnQ.normal (res0 Try.results12) rfl ?_; (try dsimp only))
       | (refine FnQ.ret (res0 Try.results12) rfl ?_; (try dsimp only))
       | (refine FnQ.ret (res1 Try.results12) (by simp only [Nat.reduceDiv, Nat.reduceMod, get_nth, nth_zero, nth_succ]; rfl) ?_; (try dsimp only))
       | (refine FnQ.ret (res2 Try.results12) (by simp only [Nat.reduceDiv, Nat.reduceMod, get_nth, nth_zero, nth_succ]; rfl) ?_; (try dsimp only))
       | (refine FnQ.retB (resc Try.results12) (by simp only [cellR_op, hb, hln, go_sem, Nat.reduceDiv, Nat.reduceMod, Nat.reduceAdd, Nat.reduceSub, Nat.reduceEqDiff, Nat.reduceLeDiff, Nat.reduceLT, Nat.reduceMul, reduceIte, Nat.reducePow, Int.reduceEq, List.toList_toArray]; rfl) ?_; (try dsimp only))
       | (refine FnQ.retB (resct Try.results12) (by simp only [cellR_op, hb, hln, go_sem, Nat.reduceDiv, Nat.reduceMod, Nat.reduceAdd, Nat.reduceSub, Nat.reduceEqDiff, Nat.reduceLeDiff, Nat.reduceLT, Nat.reduceMul, reduceIte, Nat.reducePow, Int.reduceEq, List.toList_toArray]; rfl) ?_; (try dsimp only)))
      apply V.un
      repeat' (first
       | apply V.sq
       | apply V.bl
       | apply V.sc
       | apply V.skip
       | apply V.label
       | apply V.ret
       | apply V.exit
       | apply SeqQ.normal
       | apply SeqQ.ret
       | apply SeqQ.exit
       | apply BlockQ.normal
       | apply BlockQ.ret
       | apply BlockQ.here
       | (apply BlockQ.there; decide)
       | apply LoopS.ret
       | apply LoopS.exit
       | apply LoopF.ret
       | apply LoopF.exit
       | (apply V.reg; (focus ((repeat (first
       | exact RO.nil
       | (apply RO.op; rfl; (simp only [hb, hln, go_sem, Nat.reduceDiv, Nat.reduceMod, Nat.reduceAdd, Nat.reduceSub, Nat.reduceEqDiff, Nat.reduceLeDiff, Nat.reduceLT, Nat.reduceMul, reduceIte, Nat.reducePow, Int.reduceEq, List.toList_toArray]; (first | rfl | (apply ite_ok; (first | assumption | rfl | omega | (refine ⟨?_, ?_⟩ <;> omega)); rfl))); rfl)
       | (apply RO.opg; (first | (apply wantT; rfl; rfl; (simp only [Nat.reduceDiv, Nat.reduceMod, get_nth, nth_zero, nth_succ]; rfl)) | (apply wantF; rfl; rfl; (simp only [Nat.reduceDiv, Nat.reduceMod, get_nth, nth_zero, nth_succ]; rfl)) | (apply wantTg; rfl; rfl; (simp only [Nat.reduceDiv, Nat.reduceMod, get_nth, nth_zero, nth_succ]; rfl)) | (apply wantFg; rfl; rfl; (simp only [Nat.reduceDiv, Nat.reduceMod, get_nth, nth_zero, nth_succ]; rfl)) | (apply wantU; rfl; rfl; (simp only [Nat.reduceDiv, Nat.reduceMod, get_nth, nth_zero, nth_succ]; rfl))); (intro h; (try simp only [Bool.and_eq_true, Bool.not_eq_true', Bool.not_eq_eq_eq_not, Bool.not_true] at h); simp only [h, hb, hln, go_sem, Nat.reduceDiv, Nat.reduceMod, Nat.reduceAdd, Nat.reduceSub, Nat.reduceEqDiff, Nat.reduceLeDiff, Nat.reduceLT, Nat.reduceMul, reduceIte, Nat.reducePow, Int.reduceEq, List.toList_toArray]; (first | rfl | (apply ite_ok; (first | assumption | rfl | omega | (refine ⟨?_, ?_⟩ <;> omega)); rfl))); rfl)
       | (apply RO.call; exact want0 rfl; (simp only [hb, hln, go_sem, Nat.reduceDiv, Nat.reduceMod, Nat.reduceAdd, Nat.reduceSub, Nat.reduceEqDiff, Nat.reduceLeDiff, Nat.reduceLT, Nat.reduceMul, reduceIte, Nat.reducePow, Int.reduceEq, List.toList_toArray]; rfl); (first | (apply hc <;> (first | assumption | rfl | omega | (refine ⟨?_, ?_⟩ <;> omega)))); rfl)
       | (apply RO.callg; (first | (apply wantT; rfl; rfl; (simp only [Nat.reduceDiv, Nat.reduceMod, get_nth, nth_zero, nth_succ]; rfl)) | (apply wantF; rfl; rfl; (simp only [Nat.reduceDiv, Nat.reduceMod, get_nth, nth_zero, nth_succ]; rfl)) | (apply wantTg; rfl; rfl; (simp only [Nat.reduceDiv, Nat.reduceMod, get_nth, nth_zero, nth_succ]; rfl)) | (apply wantFg; rfl; rfl; (simp only [Nat.reduceDiv, Nat.reduceMod, get_nth, nth_zero, nth_succ]; rfl)) | (apply wantU; rfl; rfl; (simp only [Nat.reduceDiv, Nat.reduceMod, get_nth, nth_zero, nth_succ]; rfl))); (intro h; (try simp only [Bool.and_eq_true, Bool.not_eq_true', Bool.not_eq_eq_eq_not, Bool.not_true] at h); simp only [h, hb, hln, go_sem, Nat.reduceDiv, Nat.reduceMod, Nat.reduceAdd, Nat.reduceSub, Nat.reduceEqDiff, Nat.reduceLeDiff, Nat.reduceLT, Nat.reduceMul, reduceIte, Nat.reducePow, Int.reduceEq, List.toList_toArray]; rfl); (intro h; (try simp only [Bool.and_eq_true, Bool.not_eq_true', Bool.not_eq_eq_eq_not, Bool.not_true] at h); (first | (apply hc <;> (first | assumption | rfl | omega | (refine ⟨?_, ?_⟩ <;> omega))))); rfl)
       | (apply RO.no; apply wantNo; (first | (apply wantT; rfl; rfl; (simp only [Nat.reduceDiv, Nat.reduceMod, get_nth, nth_zero, nth_succ]; rfl)) | (apply wantF; rfl; rfl; (simp only [Nat.reduceDiv, Nat.reduceMod, get_nth, nth_zero, nth_succ]; rfl)) | (apply wantTg; rfl; rfl; (simp only [Nat.reduceDiv, Nat.reduceMod, get_nth, nth_zero, nth_succ]; rfl)) | (apply wantFg; rfl; rfl; (simp only [Nat.reduceDiv, Nat.reduceMod, get_nth, nth_zero, nth_succ]; rfl)) | (apply wantU; rfl; rfl; (simp only [Nat.reduceDiv, Nat.reduceMod, get_nth, nth_zero, nth_succ]; rfl))); (first | rfl | (simp only [hb, hln, Bool.and_false, Bool.false_and, Bool.not_true, Bool.not_false, decide_true, decide_false, Bool.or_true, Bool.true_or, not_true_eq_false, not_false_eq_true, Bool.and_true, Bool.true_and]; done)); rfl))); done)))
       | (apply V.regd; (focus ((repeat (first
       | exact RO.nil
       | (apply RO.op; rfl; (simp only [hb, hln, go_sem, Nat.reduceDiv, Nat.reduceMod, Nat.reduceAdd, Nat.reduceSub, Nat.reduceEqDiff, Nat.reduceLeDiff, Nat.reduceLT, Nat.reduceMul, reduceIte, Nat.reducePow, Int.reduceEq, List.toList_toArray]; (first | rfl | (apply ite_ok; (first | assumption | rfl | omega | (refine ⟨?_, ?_⟩ <;> omega)); rfl))); rfl)
       | (apply RO.opg; (first | (apply wantT; rfl; rfl; (simp only [Nat.reduceDiv, Nat.reduceMod, get_nth, nth_zero, nth_succ]; rfl)) | (apply wantF; rfl; rfl; (simp only [Nat.reduceDiv, Nat.reduceMod, get_nth, nth_zero, nth_succ]; rfl)) | (apply wantTg; rfl; rfl; (simp only [Nat.reduceDiv, Nat.reduceMod, get_nth, nth_zero, nth_succ]; rfl)) | (apply wantFg; rfl; rfl; (simp only [Nat.reduceDiv, Nat.reduceMod, get_nth, nth_zero, nth_succ]; rfl)) | (apply wantU; rfl; rfl; (simp only [Nat.reduceDiv, Nat.reduceMod, get_nth, nth_zero, nth_succ]; rfl))); (intro h; (try simp only [Bool.and_eq_true, Bool.not_eq_true', Bool.not_eq_eq_eq_not, Bool.not_true] at h); simp only [h, hb, hln, go_sem, Nat.reduceDiv, Nat.reduceMod, Nat.reduceAdd, Nat.reduceSub, Nat.reduceEqDiff, Nat.reduceLeDiff, Nat.reduceLT, Nat.reduceMul, reduceIte, Nat.reducePow, Int.reduceEq, List.toList_toArray]; (first | rfl | (apply ite_ok; (first | assumption | rfl | omega | (refine ⟨?_, ?_⟩ <;> omega)); rfl))); rfl)
       | (apply RO.call; exact want0 rfl; (simp only [hb, hln, go_sem, Nat.reduceDiv, Nat.reduceMod, Nat.reduceAdd, Nat.reduceSub, Nat.reduceEqDiff, Nat.reduceLeDiff, Nat.reduceLT, Nat.reduceMul, reduceIte, Nat.reducePow, Int.reduceEq, List.toList_toArray]; rfl); (first | (apply hc <;> (first | assumption | rfl | omega | (refine ⟨?_, ?_⟩ <;> omega)))); rfl)
       | (apply RO.callg; (first | (apply wantT; rfl; rfl; (simp only [Nat.reduceDiv, Nat.reduceMod, get_nth, nth_zero, nth_succ]; rfl)) | (apply wantF; rfl; rfl; (simp only [Nat.reduceDiv, Nat.reduceMod, get_nth, nth_zero, nth_succ]; rfl)) | (apply wantTg; rfl; rfl; (simp only [Nat.reduceDiv, Nat.reduceMod, get_nth, nth_zero, nth_succ]; rfl)) | (apply wantFg; rfl; rfl; (simp only [Nat.reduceDiv, Nat.reduceMod, get_nth, nth_zero, nth_succ]; rfl)) | (apply wantU; rfl; rfl; (simp only [Nat.reduceDiv, Nat.reduceMod, get_nth, nth_zero, nth_succ]; rfl))); (intro h; (try simp only [Bool.and_eq_true, Bool.not_eq_true', Bool.not_eq_eq_eq_not, Bool.not_true] at h); simp only [h, hb, hln, go_sem, Nat.reduceDiv, Nat.reduceMod, Nat.reduceAdd, Nat.reduceSub, Nat.reduceEqDiff, Nat.reduceLeDiff, Nat.reduceLT, Nat.reduceMul, reduceIte, Nat.reducePow, Int.reduceEq, List.toList_toArray]; rfl); (intro h; (try simp only [Bool.and_eq_true, Bool.not_eq_true', Bool.not_eq_eq_eq_not, Bool.not_true] at h); (first | (apply hc <;> (first | assumption | rfl | omega | (refine ⟨?_, ?_⟩ <;> omega))))); rfl)
       | (apply RO.no; apply wantNo; (first | (apply wantT; rfl; rfl; (simp only [Nat.reduceDiv, Nat.reduceMod, get_nth, nth_zero, nth_succ]; rfl)) | (apply wantF; rfl; rfl; (simp only [Nat.reduceDiv, Nat.reduceMod, get_nth, nth_zero, nth_succ]; rfl)) | (apply wantTg; rfl; rfl; (simp only [Nat.reduceDiv, Nat.reduceMod, get_nth, nth_zero, nth_succ]; rfl)) | (apply wantFg; rfl; rfl; (simp only [Nat.reduceDiv, Nat.reduceMod, get_nth, nth_zero, nth_succ]; rfl)) | (apply wantU; rfl; rfl; (simp only [Nat.reduceDiv, Nat.reduceMod, get_nth, nth_zero, nth_succ]; rfl))); (first | rfl | (simp only [hb, hln, Bool.and_false, Bool.false_and, Bool.not_true, Bool.not_false, decide_true, decide_false, Bool.or_true, Bool.true_or, not_true_eq_false, not_false_eq_true, Bool.and_true, Bool.true_and]; done)); rfl))); done)); (focus kernel_rfl); (focus (first | (apply okPairs_kinds; (focus ((repeat (first | exact Kinds.nil | (apply Kinds.ro; (first | exact RoT.zero | exact RoT.rd | exact RoT.all | exact RoT.rdTr _ | assumption)) | apply Kinds.any)); done)); decide +kernel) | kernel_rfl)))
       | (refine V.cond rfl (fun h => ?_) (fun h => ?_) <;> (try simp only [decide_eq_true_eq, decide_eq_false_iff_not, Bool.and_eq_true, Bool.or_eq_true, Bool.and_eq_false_iff, Bool.or_eq_false_iff, Bool.not_eq_true', Bool.not_eq_false', Bool.not_true, Bool.not_false, Classical.not_not, Int.not_lt, Int.not_le, reduceCtorEq, not_true_eq_false, not_false_eq_true, decide_true, decide_false, Int.reduceEq, Int.reduceLT, Int.reduceLE] at h) <;> (try (exfalso; omega)))
       | (refine FnQ.normal (res0 Try.results12) rfl ?_; (try dsimp only))
       | (refine FnQ.ret (res0 Try.results12) rfl ?_; (try dsimp only))
       | (refine FnQ.ret (res1 Try.results12) (by simp only [Nat.reduceDiv, Nat.reduceMod, get_nth, nth_zero, nth_succ]; rfl) ?_; (try dsimp only))
       | (refine FnQ.ret (res2 Try.results12) (by simp only [Nat.reduceDiv, Nat.reduceMod, get_nth, nth_zero, nth_succ]; rfl) ?_; (try dsimp only))
       | (refine FnQ.retB (resc Try.results12) (by simp only [cellR_op, hb, hln, go_sem, Nat.reduceDiv, Nat.reduceMod, Nat.reduceAdd, Nat.reduceSub, Nat.reduceEqDiff, Nat.reduceLeDiff, Nat.reduceLT, Nat.reduceMul, reduceIte, Nat.reducePow, Int.reduceEq, List.toList_toArray]; rfl) ?_; (try dsimp only))
       | (refine FnQ.retB (resct Try.results12) (by simp only [cellR_op, hb, hln, go_sem, Nat.reduceDiv, Nat.reduceMod, Nat.reduceAdd, Nat.reduceSub, Nat.reduceEqDiff, Nat.reduceLeDiff, Nat.reduceLT, Nat.reduceMul, reduceIte, Nat.reducePow, Int.reduceEq, List.toList_toArray]; rfl) ?_; (try dsimp only)))
      rw [e]
      exact ⟨⟨hT.next, hT.js, fun k hk hf => by rw [hT.keep k hk hf, get_set, if_neg (by rintro rfl; exact hf hP.own)]⟩, ⟨_, _, _, _, hP'⟩, rfl⟩
end
end Go.Am
