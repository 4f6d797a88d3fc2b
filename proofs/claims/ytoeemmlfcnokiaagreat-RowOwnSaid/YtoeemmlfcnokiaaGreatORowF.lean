/- Parts of the proof: ORowM ORowM2 ORowD ORowE ORowP ORowF. -/
import Derived.Test.YtoeemmlfcnokiaaGreatORowC
import Derived.Test.YtoeemmlfcnokiaaGreatAmD
set_option linter.all false
set_option linter.deprecated false

namespace Go.Am
open Go.Proofs
set_option maxRecDepth 8000
set_option maxHeartbeats 1000000
abbrev cesA (l : List Ce) : List (List AV) := l.map fun c => ceA c
abbrev zeroC : Ce := ⟨0, 0, 0⟩

/-- Was the cell ahead a wide sign's first half? -/
def openB (l : List Ce) : Nat → Bool
  | 0 => false
  | i + 1 => decide ((l.getD i zeroC).w = 2)
def aheadA (l : List Ce) : Nat → Int
  | 0 => 0
  | i + 1 => (l.getD i zeroC).a
def stepOk (l : List Ce) (i : Nat) : Prop := mayC (l.getD i zeroC).r (l.getD i zeroC).w (l.getD i zeroC).a ∧ (openB l i = decide ((l.getD i zeroC).w = 0)) ∧ (openB l i = true → (l.getD i zeroC).a = aheadA l i)
instance (l : List Ce) (i : Nat) : Decidable (stepOk l i) := inferInstanceAs (Decidable (_ ∧ _))

/-- A row that may be. -/
def rowP (l : List Ce) : Prop := l.length ≤ 300 ∧ (∀ i, i < l.length → stepOk l i) ∧ openB l l.length = false
instance (l : List Ce) : Decidable (rowP l) := inferInstanceAs (Decidable (_ ∧ _))
theorem nth_cesA (l : List Ce) (i : Nat) (h : i < l.length) : nth [] (cesA l) i = ceA (l.getD i zeroC) := nth_map _ l i zeroC h
section
variable {ys : List (Nat × LRec)} {lo : Nat} {H : AHeap}
theorem rowMay_wc (lo : Nat) (H : AHeap) (A : AV) (l : List Ce) (wr : Bool) (hA : SlH H 3 A (cesA l)) (hlo : lo ≤ H.next) (hl : l.length < 2 ^ 40) :
    WC EO [] lo 61 [.agg [A, .v (.bool wr)]] H fun x _ => x = .v (.bool (decide (rowP l))) := by
  have hlen := fun (H : AHeap) (h : SlH H 3 A (cesA l)) => len_SlH EO lo 45 3 h (by kernel_rfl)
  have hcl : (cesA l).length = l.length := List.length_map _
  have hA1 := hA.push ⟨47, 2, 0, [[A, .v (.bool wr)]], none⟩
  have hlen1 := hlen _ hA1
  refine zvin Tryz.func61 Tryz.ntmps61 ?_
  repeat' (first
   | apply V.sq
   | apply V.bl
   | apply V.sc
   | apply V.skip
   | apply V.label
   | apply V.ret
   | apply V.exit
   | apply SeqQ.normal
   | apply SeqQ.ret
   | apply SeqQ.exit
   | apply BlockQ.normal
   | apply BlockQ.ret
   | apply BlockQ.here
   | refine zbt ?_
   | apply LoopS.ret
   | apply LoopS.exit
   | apply LoopF.ret
   | apply LoopF.exit
   | (apply V.reg; (focus ((repeat (first
   | exact RO.nil
   | (apply RO.op; rfl; (simp only [hlen1, hcl, go_sem, get_nth, fieldAddrA, Nat.reduceDiv, Nat.reduceMod, Nat.reduceAdd, Nat.reduceSub, Nat.reduceEqDiff, Nat.reduceLeDiff, Nat.reduceLT, Nat.reduceMul, reduceIte, Nat.reducePow, Int.reduceEq, List.toList_toArray]; exact zL); rfl)
   | (apply RO.opg; exact zW; (intro h; (try simp only [Bool.and_eq_true, Bool.not_eq_true', Bool.not_eq_eq_eq_not, Bool.not_true] at h); simp only [h, hlen1, hcl, go_sem, get_nth, fieldAddrA, Nat.reduceDiv, Nat.reduceMod, Nat.reduceAdd, Nat.reduceSub, Nat.reduceEqDiff, Nat.reduceLeDiff, Nat.reduceLT, Nat.reduceMul, reduceIte, Nat.reducePow, Int.reduceEq, List.toList_toArray]; exact zL); rfl)
   | (apply RO.call; exact want0 rfl; (simp only [hlen1, hcl, go_sem, get_nth, fieldAddrA, Nat.reduceDiv, Nat.reduceMod, Nat.reduceAdd, Nat.reduceSub, Nat.reduceEqDiff, Nat.reduceLeDiff, Nat.reduceLT, Nat.reduceMul, reduceIte, Nat.reducePow, Int.reduceEq, List.toList_toArray]; rfl); fail; rfl)
   | (apply RO.callg; exact zW; (intro h; (try simp only [Bool.and_eq_true, Bool.not_eq_true', Bool.not_eq_eq_eq_not, Bool.not_true] at h); simp only [h, hlen1, hcl, go_sem, get_nth, fieldAddrA, Nat.reduceDiv, Nat.reduceMod, Nat.reduceAdd, Nat.reduceSub, Nat.reduceEqDiff, Nat.reduceLeDiff, Nat.reduceLT, Nat.reduceMul, reduceIte, Nat.reducePow, Int.reduceEq, List.toList_toArray]; rfl); (intro h; (try simp only [Bool.and_eq_true, Bool.not_eq_true', Bool.not_eq_eq_eq_not, Bool.not_true] at h); fail); rfl)
   | (apply RO.no; apply wantNo; exact zW; (first | rfl | (focus (simp only [hlen1, hcl, Bool.and_false, Bool.false_and, Bool.not_true, Bool.not_false, decide_true, decide_false, Bool.or_true, Bool.true_or, not_true_eq_false, not_false_eq_true, Bool.and_true, Bool.true_and]; done))); rfl))); done)))
   | (apply V.regd; (focus ((repeat (first
   | exact RO.nil
   | (apply RO.op; rfl; (simp only [hlen1, hcl, go_sem, get_nth, fieldAddrA, Nat.reduceDiv, Nat.reduceMod, Nat.reduceAdd, Nat.reduceSub, Nat.reduceEqDiff, Nat.reduceLeDiff, Nat.reduceLT, Nat.reduceMul, reduceIte, Nat.reducePow, Int.reduceEq, List.toList_toArray]; exact zL); rfl)
   | (apply RO.opg; exact zW; (intro h; (try simp only [Bool.and_eq_true, Bool.not_eq_true', Bool.not_eq_eq_eq_not, Bool.not_true] at h); simp only [h, hlen1, hcl, go_sem, get_nth, fieldAddrA, Nat.reduceDiv, Nat.reduceMod, Nat.reduceAdd, Nat.reduceSub, Nat.reduceEqDiff, Nat.reduceLeDiff, Nat.reduceLT, Nat.reduceMul, reduceIte, Nat.reducePow, Int.reduceEq, List.toList_toArray]; exact zL); rfl)
   | (apply RO.call; exact want0 rfl; (simp only [hlen1, hcl, go_sem, get_nth, fieldAddrA, Nat.reduceDiv, Nat.reduceMod, Nat.reduceAdd, Nat.reduceSub, Nat.reduceEqDiff, Nat.reduceLeDiff, Nat.reduceLT, Nat.reduceMul, reduceIte, Nat.reducePow, Int.reduceEq, List.toList_toArray]; rfl); fail; rfl)
   | (apply RO.callg; exact zW; (intro h; (try simp only [Bool.and_eq_true, Bool.not_eq_true', Bool.not_eq_eq_eq_not, Bool.not_true] at h); simp only [h, hlen1, hcl, go_sem, get_nth, fieldAddrA, Nat.reduceDiv, Nat.reduceMod, Nat.reduceAdd, Nat.reduceSub, Nat.reduceEqDiff, Nat.reduceLeDiff, Nat.reduceLT, Nat.reduceMul, reduceIte, Nat.reducePow, Int.reduceEq, List.toList_toArray]; rfl); (intro h; (try simp only [Bool.and_eq_true, Bool.not_eq_true', Bool.not_eq_eq_eq_not, Bool.not_true] at h); fail); rfl)
   | (apply RO.no; apply wantNo; exact zW; (first | rfl | (focus (simp only [hlen1, hcl, Bool.and_false, Bool.false_and, Bool.not_true, Bool.not_false, decide_true, decide_false, Bool.or_true, Bool.true_or, not_true_eq_false, not_false_eq_true, Bool.and_true, Bool.true_and]; done))); rfl))); done)); exact zK; exact zE)
   | (refine zvf (fun h => ?_) (fun h => ?_) <;> (replace h := zB h) <;> (try (exfalso; first | exact h | omega)))
   | (refine zfc Tryz.results61 ?_; (try dsimp only)))
  · congr 2
    rw [eq_comm, decide_eq_false_iff_not]
    rintro ⟨_, _⟩; omega
  · apply V.lpS [14, 3, 4, 2, 6, 15, 16, 17, 18, 19, 20, 21, 22, 23, 24, 25, 26, 27, 28, 29, 30, 31, 32, 33, 34, 35, 36, 37, 38, 39, 40, 41, 42] (fun m xs H' => ∃ (i : Nat) (g : _), xs = .v (.int .i64 i) :: .v (.bool (openB l i)) :: .v (.int .i64 (aheadA l i)) :: g ∧ m = l.length - i ∧ i ≤ l.length ∧ SlH H' 3 A (cesA l) ∧ lo ≤ H'.next ∧ ∀ j, j < i → stepOk l j) l.length
    focus (intro xs; simp only [putMany, set2, Nat.reduceAdd, Nat.reduceDiv, Nat.reduceMod, nth_zero, nth_succ, List.set_cons_zero, List.set_cons_succ]; rfl)
    focus (first | rfl | simp only [readMany, nth_zero, nth_succ, Nat.reduceDiv, Nat.reduceMod])
    · exact ⟨0, _, rfl, rfl, Nat.zero_le _, hA1, by rw [next_push]; omega, fun j h => absurd h (Nat.not_lt_zero _)⟩
    · rintro m xs H' ⟨i, g, rfl, rfl, hi, hA', hlo', hst⟩
      have hz : ¬ H'.next < lo := by omega
      repeat' (first
       | apply V.sq
       | apply V.bl
       | apply V.sc
       | apply V.skip
       | apply V.label
       | apply V.ret
       | apply V.exit
       | apply SeqQ.normal
       | apply SeqQ.ret
       | apply SeqQ.exit
       | apply BlockQ.normal
       | apply BlockQ.ret
       | apply BlockQ.here
       | refine zbt ?_
       | apply LoopS.ret
       | apply LoopS.exit
       | apply LoopF.ret
       | apply LoopF.exit
       | (apply V.reg; (focus ((repeat (first
       | exact RO.nil
       | (apply RO.op; rfl; (simp only [hcl, go_sem, get_nth, fieldAddrA, Nat.reduceDiv, Nat.reduceMod, Nat.reduceAdd, Nat.reduceSub, Nat.reduceEqDiff, Nat.reduceLeDiff, Nat.reduceLT, Nat.reduceMul, reduceIte, Nat.reducePow, Int.reduceEq, List.toList_toArray]; exact zL); rfl)
       | (apply RO.opg; exact zW; (intro h; (try simp only [Bool.and_eq_true, Bool.not_eq_true', Bool.not_eq_eq_eq_not, Bool.not_true] at h); simp only [h, hcl, go_sem, get_nth, fieldAddrA, Nat.reduceDiv, Nat.reduceMod, Nat.reduceAdd, Nat.reduceSub, Nat.reduceEqDiff, Nat.reduceLeDiff, Nat.reduceLT, Nat.reduceMul, reduceIte, Nat.reducePow, Int.reduceEq, List.toList_toArray]; exact zL); rfl)
       | (apply RO.call; exact want0 rfl; (simp only [hcl, go_sem, get_nth, fieldAddrA, Nat.reduceDiv, Nat.reduceMod, Nat.reduceAdd, Nat.reduceSub, Nat.reduceEqDiff, Nat.reduceLeDiff, Nat.reduceLT, Nat.reduceMul, reduceIte, Nat.reducePow, Int.reduceEq, List.toList_toArray]; rfl); fail; rfl)
       | (apply RO.callg; exact zW; (intro h; (try simp only [Bool.and_eq_true, Bool.not_eq_true', Bool.not_eq_eq_eq_not, Bool.not_true] at h); simp only [h, hcl, go_sem, get_nth, fieldAddrA, Nat.reduceDiv, Nat.reduceMod, Nat.reduceAdd, Nat.reduceSub, Nat.reduceEqDiff, Nat.reduceLeDiff, Nat.reduceLT, Nat.reduceMul, reduceIte, Nat.reducePow, Int.reduceEq, List.toList_toArray]; rfl); (intro h; (try simp only [Bool.and_eq_true, Bool.not_eq_true', Bool.not_eq_eq_eq_not, Bool.not_true] at h); fail); rfl)
       | (apply RO.no; apply wantNo; exact zW; (first | rfl | (focus (simp only [hcl, Bool.and_false, Bool.false_and, Bool.not_true, Bool.not_false, decide_true, decide_false, Bool.or_true, Bool.true_or, not_true_eq_false, not_false_eq_true, Bool.and_true, Bool.true_and]; done))); rfl))); done)))
       | (apply V.regd; (focus ((repeat (first
       | exact RO.nil
       | (apply RO.op; rfl; (simp only [hcl, go_sem, get_nth, fieldAddrA, Nat.reduceDiv, Nat.reduceMod, Nat.reduceAdd, Nat.reduceSub, Nat.reduceEqDiff, Nat.reduceLeDiff, Nat.reduceLT, Nat.reduceMul, reduceIte, Nat.reducePow, Int.reduceEq, List.toList_toArray]; exact zL); rfl)
       | (apply RO.opg; exact zW; (intro h; (try simp only [Bool.and_eq_true, Bool.not_eq_true', Bool.not_eq_eq_eq_not, Bool.not_true] at h); simp only [h, hcl, go_sem, get_nth, fieldAddrA, Nat.reduceDiv, Nat.reduceMod, Nat.reduceAdd, Nat.reduceSub, Nat.reduceEqDiff, Nat.reduceLeDiff, Nat.reduceLT, Nat.reduceMul, reduceIte, Nat.reducePow, Int.reduceEq, List.toList_toArray]; exact zL); rfl)
       | (apply RO.call; exact want0 rfl; (simp only [hcl, go_sem, get_nth, fieldAddrA, Nat.reduceDiv, Nat.reduceMod, Nat.reduceAdd, Nat.reduceSub, Nat.reduceEqDiff, Nat.reduceLeDiff, Nat.reduceLT, Nat.reduceMul, reduceIte, Nat.reducePow, Int.reduceEq, List.toList_toArray]; rfl); fail; rfl)
       | (apply RO.callg; exact zW; (intro h; (try simp only [Bool.and_eq_true, Bool.not_eq_true', Bool.not_eq_eq_eq_not, Bool.not_true] at h); simp only [h, hcl, go_sem, get_nth, fieldAddrA, Nat.reduceDiv, Nat.reduceMod, Nat.reduceAdd, Nat.reduceSub, Nat.reduceEqDiff, Nat.reduceLeDiff, Nat.reduceLT, Nat.reduceMul, reduceIte, Nat.reducePow, Int.reduceEq, List.toList_toArray]; rfl); (intro h; (try simp only [Bool.and_eq_true, Bool.not_eq_true', Bool.not_eq_eq_eq_not, Bool.not_true] at h); fail); rfl)
       | (apply RO.no; apply wantNo; exact zW; (first | rfl | (focus (simp only [hcl, Bool.and_false, Bool.false_and, Bool.not_true, Bool.not_false, decide_true, decide_false, Bool.or_true, Bool.true_or, not_true_eq_false, not_false_eq_true, Bool.and_true, Bool.true_and]; done))); rfl))); done)); exact zK; exact zE)
       | (refine zvf (fun h => ?_) (fun h => ?_) <;> (replace h := zB h) <;> (try (exfalso; first | exact h | omega)))
       | (refine zfc Tryz.results61 ?_; (try dsimp only)))
      · have h' : i < l.length := by omega
        have hn := nth_cesA l i h'
        have hix := index_SlH EO lo (H := H') 45 .i64 (i : Int) hA' (by kernel_rfl) (by omega) (by rw [hcl]; omega)
        have hld := load_SlH EO lo 61 i hA' (by rw [hcl]; omega)
        rw [Int.toNat_natCast] at hix
        rw [hn] at hld
        have hi1 : IntKind.i64.wrap ((i : Int) + 1) = ((i + 1 : Nat) : Int) := i64n i (by omega)
        cases hop : openB l i
        ·
          repeat' (first
           | apply V.sq
           | apply V.bl
           | apply V.sc
           | apply V.skip
           | apply V.label
           | apply V.ret
           | apply V.exit
           | apply SeqQ.normal
           | apply SeqQ.ret
           | apply SeqQ.exit
           | apply BlockQ.normal
           | apply BlockQ.ret
           | apply BlockQ.here
           | refine zbt ?_
           | apply LoopS.ret
           | apply LoopS.exit
           | apply LoopF.ret
           | apply LoopF.exit
           | (apply V.reg; (focus ((repeat (first
           | exact RO.nil
           | (apply RO.no; apply wantNo; exact zW; (first | (focus (simp only [hix, hld, hz, hlo', Bool.and_false, Bool.false_and, Bool.not_true, Bool.not_false, decide_true, decide_false, Bool.or_true, Bool.true_or, not_true_eq_false, not_false_eq_true, Bool.and_true, Bool.true_and]; done)) | rfl); rfl)
           | (apply RO.op; rfl; (simp only [hix, hld, hz, hlo', go_sem, get_nth, fieldAddrA, Nat.reduceDiv, Nat.reduceMod, Nat.reduceAdd, Nat.reduceSub, Nat.reduceEqDiff, Nat.reduceLeDiff, Nat.reduceLT, Nat.reduceMul, reduceIte, Nat.reducePow, Int.reduceEq, List.toList_toArray]; exact zL); rfl)
           | (apply RO.opg; exact zW; (intro h; (try simp only [Bool.and_eq_true, Bool.not_eq_true', Bool.not_eq_eq_eq_not, Bool.not_true] at h); simp only [h, hix, hld, hz, hlo', go_sem, get_nth, fieldAddrA, Nat.reduceDiv, Nat.reduceMod, Nat.reduceAdd, Nat.reduceSub, Nat.reduceEqDiff, Nat.reduceLeDiff, Nat.reduceLT, Nat.reduceMul, reduceIte, Nat.reducePow, Int.reduceEq, List.toList_toArray]; exact zL); rfl)
           | (apply RO.call; exact want0 rfl; (simp only [hix, hld, hz, hlo', go_sem, get_nth, fieldAddrA, Nat.reduceDiv, Nat.reduceMod, Nat.reduceAdd, Nat.reduceSub, Nat.reduceEqDiff, Nat.reduceLeDiff, Nat.reduceLT, Nat.reduceMul, reduceIte, Nat.reducePow, Int.reduceEq, List.toList_toArray]; rfl); (first | (apply May_run <;> (exact zD))); rfl)
           | (apply RO.callg; exact zW; (intro h; (try simp only [Bool.and_eq_true, Bool.not_eq_true', Bool.not_eq_eq_eq_not, Bool.not_true] at h); simp only [h, hix, hld, hz, hlo', go_sem, get_nth, fieldAddrA, Nat.reduceDiv, Nat.reduceMod, Nat.reduceAdd, Nat.reduceSub, Nat.reduceEqDiff, Nat.reduceLeDiff, Nat.reduceLT, Nat.reduceMul, reduceIte, Nat.reducePow, Int.reduceEq, List.toList_toArray]; rfl); (intro h; (try simp only [Bool.and_eq_true, Bool.not_eq_true', Bool.not_eq_eq_eq_not, Bool.not_true] at h); (first | (apply May_run <;> (exact zD)))); rfl))); done)))
           | (apply V.regd; (focus ((repeat (first
           | exact RO.nil
           | (apply RO.no; apply wantNo; exact zW; (first | (focus (simp only [hix, hld, hz, hlo', Bool.and_false, Bool.false_and, Bool.not_true, Bool.not_false, decide_true, decide_false, Bool.or_true, Bool.true_or, not_true_eq_false, not_false_eq_true, Bool.and_true, Bool.true_and]; done)) | rfl); rfl)
           | (apply RO.op; rfl; (simp only [hix, hld, hz, hlo', go_sem, get_nth, fieldAddrA, Nat.reduceDiv, Nat.reduceMod, Nat.reduceAdd, Nat.reduceSub, Nat.reduceEqDiff, Nat.reduceLeDiff, Nat.reduceLT, Nat.reduceMul, reduceIte, Nat.reducePow, Int.reduceEq, List.toList_toArray]; exact zL); rfl)
           | (apply RO.opg; exact zW; (intro h; (try simp only [Bool.and_eq_true, Bool.not_eq_true', Bool.not_eq_eq_eq_not, Bool.not_true] at h); simp only [h, hix, hld, hz, hlo', go_sem, get_nth, fieldAddrA, Nat.reduceDiv, Nat.reduceMod, Nat.reduceAdd, Nat.reduceSub, Nat.reduceEqDiff, Nat.reduceLeDiff, Nat.reduceLT, Nat.reduceMul, reduceIte, Nat.reducePow, Int.reduceEq, List.toList_toArray]; exact zL); rfl)
           | (apply RO.call; exact want0 rfl; (simp only [hix, hld, hz, hlo', go_sem, get_nth, fieldAddrA, Nat.reduceDiv, Nat.reduceMod, Nat.reduceAdd, Nat.reduceSub, Nat.reduceEqDiff, Nat.reduceLeDiff, Nat.reduceLT, Nat.reduceMul, reduceIte, Nat.reducePow, Int.reduceEq, List.toList_toArray]; rfl); (first | (apply May_run <;> (exact zD))); rfl)
           | (apply RO.callg; exact zW; (intro h; (try simp only [Bool.and_eq_true, Bool.not_eq_true', Bool.not_eq_eq_eq_not, Bool.not_true] at h); simp only [h, hix, hld, hz, hlo', go_sem, get_nth, fieldAddrA, Nat.reduceDiv, Nat.reduceMod, Nat.reduceAdd, Nat.reduceSub, Nat.reduceEqDiff, Nat.reduceLeDiff, Nat.reduceLT, Nat.reduceMul, reduceIte, Nat.reducePow, Int.reduceEq, List.toList_toArray]; rfl); (intro h; (try simp only [Bool.and_eq_true, Bool.not_eq_true', Bool.not_eq_eq_eq_not, Bool.not_true] at h); (first | (apply May_run <;> (exact zD)))); rfl))); done)); exact zK; exact zE)
           | (refine zvf (fun h => ?_) (fun h => ?_) <;> (replace h := zB h) <;> (try (exfalso; first | exact h | omega)))
           | (refine zfc Tryz.results61 ?_; (try dsimp only)))
          · congr 2
            rw [eq_comm, decide_eq_false_iff_not]
            rintro ⟨_, h2, _⟩
            obtain ⟨h3, h4, h5⟩ := h2 i h'
            rw [hop] at h4 h5
            rcases h with (h | h) | h
            · exact h h3
            · rw [← h4] at h; cases h
            · first | exact h | exact h (h5 rfl)
          · rw [hi1]
            refine LoopS.again (l.length - (i + 1)) (by rfl) (by omega) ⟨i + 1, _, rfl, rfl, by omega, hA'.push _, by rw [next_push]; omega, fun j hj => ?_⟩
            rcases Nat.lt_succ_iff_lt_or_eq.1 hj with hj | rfl
            · exact hst j hj
            · refine ⟨h.1.1, ?_, fun e => ?_⟩
              · rw [hop]; exact beq_iff_eq.1 h.1.2
              · first | exact h.2 | (rw [hop] at e; cases e)
        ·
          repeat' (first
           | apply V.sq
           | apply V.bl
           | apply V.sc
           | apply V.skip
           | apply V.label
           | apply V.ret
           | apply V.exit
           | apply SeqQ.normal
           | apply SeqQ.ret
           | apply SeqQ.exit
           | apply BlockQ.normal
           | apply BlockQ.ret
           | apply BlockQ.here
           | refine zbt ?_
           | apply LoopS.ret
           | apply LoopS.exit
           | apply LoopF.ret
           | apply LoopF.exit
           | (apply V.reg; (focus ((repeat (first
           | exact RO.nil
           | (apply RO.no; apply wantNo; exact zW; (first | (focus (simp only [hix, hld, hz, hlo', Bool.and_false, Bool.false_and, Bool.not_true, Bool.not_false, decide_true, decide_false, Bool.or_true, Bool.true_or, not_true_eq_false, not_false_eq_true, Bool.and_true, Bool.true_and]; done)) | rfl); rfl)
           | (apply RO.op; rfl; (simp only [hix, hld, hz, hlo', go_sem, get_nth, fieldAddrA, Nat.reduceDiv, Nat.reduceMod, Nat.reduceAdd, Nat.reduceSub, Nat.reduceEqDiff, Nat.reduceLeDiff, Nat.reduceLT, Nat.reduceMul, reduceIte, Nat.reducePow, Int.reduceEq, List.toList_toArray]; exact zL); rfl)
           | (apply RO.opg; exact zW; (intro h; (try simp only [Bool.and_eq_true, Bool.not_eq_true', Bool.not_eq_eq_eq_not, Bool.not_true] at h); simp only [h, hix, hld, hz, hlo', go_sem, get_nth, fieldAddrA, Nat.reduceDiv, Nat.reduceMod, Nat.reduceAdd, Nat.reduceSub, Nat.reduceEqDiff, Nat.reduceLeDiff, Nat.reduceLT, Nat.reduceMul, reduceIte, Nat.reducePow, Int.reduceEq, List.toList_toArray]; exact zL); rfl)
           | (apply RO.call; exact want0 rfl; (simp only [hix, hld, hz, hlo', go_sem, get_nth, fieldAddrA, Nat.reduceDiv, Nat.reduceMod, Nat.reduceAdd, Nat.reduceSub, Nat.reduceEqDiff, Nat.reduceLeDiff, Nat.reduceLT, Nat.reduceMul, reduceIte, Nat.reducePow, Int.reduceEq, List.toList_toArray]; rfl); (first | (apply May_run <;> (exact zD))); rfl)
           | (apply RO.callg; exact zW; (intro h; (try simp only [Bool.and_eq_true, Bool.not_eq_true', Bool.not_eq_eq_eq_not, Bool.not_true] at h); simp only [h, hix, hld, hz, hlo', go_sem, get_nth, fieldAddrA, Nat.reduceDiv, Nat.reduceMod, Nat.reduceAdd, Nat.reduceSub, Nat.reduceEqDiff, Nat.reduceLeDiff, Nat.reduceLT, Nat.reduceMul, reduceIte, Nat.reducePow, Int.reduceEq, List.toList_toArray]; rfl); (intro h; (try simp only [Bool.and_eq_true, Bool.not_eq_true', Bool.not_eq_eq_eq_not, Bool.not_true] at h); (first | (apply May_run <;> (exact zD)))); rfl))); done)))
           | (apply V.regd; (focus ((repeat (first
           | exact RO.nil
           | (apply RO.no; apply wantNo; exact zW; (first | (focus (simp only [hix, hld, hz, hlo', Bool.and_false, Bool.false_and, Bool.not_true, Bool.not_false, decide_true, decide_false, Bool.or_true, Bool.true_or, not_true_eq_false, not_false_eq_true, Bool.and_true, Bool.true_and]; done)) | rfl); rfl)
           | (apply RO.op; rfl; (simp only [hix, hld, hz, hlo', go_sem, get_nth, fieldAddrA, Nat.reduceDiv, Nat.reduceMod, Nat.reduceAdd, Nat.reduceSub, Nat.reduceEqDiff, Nat.reduceLeDiff, Nat.reduceLT, Nat.reduceMul, reduceIte, Nat.reducePow, Int.reduceEq, List.toList_toArray]; exact zL); rfl)
           | (apply RO.opg; exact zW; (intro h; (try simp only [Bool.and_eq_true, Bool.not_eq_true', Bool.not_eq_eq_eq_not, Bool.not_true] at h); simp only [h, hix, hld, hz, hlo', go_sem, get_nth, fieldAddrA, Nat.reduceDiv, Nat.reduceMod, Nat.reduceAdd, Nat.reduceSub, Nat.reduceEqDiff, Nat.reduceLeDiff, Nat.reduceLT, Nat.reduceMul, reduceIte, Nat.reducePow, Int.reduceEq, List.toList_toArray]; exact zL); rfl)
           | (apply RO.call; exact want0 rfl; (simp only [hix, hld, hz, hlo', go_sem, get_nth, fieldAddrA, Nat.reduceDiv, Nat.reduceMod, Nat.reduceAdd, Nat.reduceSub, Nat.reduceEqDiff, Nat.reduceLeDiff, Nat.reduceLT, Nat.reduceMul, reduceIte, Nat.reducePow, Int.reduceEq, List.toList_toArray]; rfl); (first | (apply May_run <;> (exact zD))); rfl)
           | (apply RO.callg; exact zW; (intro h; (try simp only [Bool.and_eq_true, Bool.not_eq_true', Bool.not_eq_eq_eq_not, Bool.not_true] at h); simp only [h, hix, hld, hz, hlo', go_sem, get_nth, fieldAddrA, Nat.reduceDiv, Nat.reduceMod, Nat.reduceAdd, Nat.reduceSub, Nat.reduceEqDiff, Nat.reduceLeDiff, Nat.reduceLT, Nat.reduceMul, reduceIte, Nat.reducePow, Int.reduceEq, List.toList_toArray]; rfl); (intro h; (try simp only [Bool.and_eq_true, Bool.not_eq_true', Bool.not_eq_eq_eq_not, Bool.not_true] at h); (first | (apply May_run <;> (exact zD)))); rfl))); done)); exact zK; exact zE)
           | (refine zvf (fun h => ?_) (fun h => ?_) <;> (replace h := zB h) <;> (try (exfalso; first | exact h | omega)))
           | (refine zfc Tryz.results61 ?_; (try dsimp only)))
          · congr 2
            rw [eq_comm, decide_eq_false_iff_not]
            rintro ⟨_, h2, _⟩
            obtain ⟨h3, h4, h5⟩ := h2 i h'
            rw [hop] at h4 h5
            rcases h with (h | h) | h
            · exact h h3
            · rw [← h4] at h; cases h
            · first | exact h | exact h (h5 rfl)
          · rw [hi1]
            refine LoopS.again (l.length - (i + 1)) (by rfl) (by omega) ⟨i + 1, _, rfl, rfl, by omega, hA'.push _, by rw [next_push]; omega, fun j hj => ?_⟩
            rcases Nat.lt_succ_iff_lt_or_eq.1 hj with hj | rfl
            · exact hst j hj
            · refine ⟨h.1.1, ?_, fun e => ?_⟩
              · rw [hop]; exact beq_iff_eq.1 h.1.2
              · first | exact h.2 | (rw [hop] at e; cases e)
      · have : i = l.length := by omega
        subst this
        congr 2
        rw [Bool.eq_iff_iff, decide_eq_true_eq, Bool.not_eq_true']
        exact ⟨fun e => ⟨by omega, hst, e⟩, fun e => e.2.2⟩
end
end Go.Am

namespace Go.Am
open Go.Proofs
set_option maxRecDepth 8000
set_option maxHeartbeats 4000000
def refOk (l : List Ce) (i : Nat) : Prop := mayC (l.getD i zeroC).r (l.getD i zeroC).w (l.getD i zeroC).a ∧ ¬((l.getD i zeroC).w = 2 ∧ (l.length ≤ i + 1 ∨ l.getD (i + 1) zeroC ≠ ⟨0, 0, (l.getD i zeroC).a⟩)) ∧ ¬((l.getD i zeroC).w = 0 ∧ (i = 0 ∨ (l.getD (i - 1) zeroC).w ≠ 2 ∨ (l.getD (i - 1) zeroC).a ≠ (l.getD i zeroC).a))
instance (l : List Ce) (i : Nat) : Decidable (refOk l i) := inferInstanceAs (Decidable (_ ∧ _))
abbrev R32 (l : List Ce) : Prop := ∀ i, -2147483648 ≤ (l.getD i zeroC).r ∧ (l.getD i zeroC).r ≤ 2147483647
theorem Ce.eq {c : Ce} {r w a : Int} (h1 : c.r = r) (h2 : c.w = w) (h3 : c.a = a) : c = ⟨r, w, a⟩ := by cases c; simp_all
theorem Ce.eqv {c : Ce} {r w a : Int} : c = ⟨r, w, a⟩ ↔ c.r = r ∧ c.w = w ∧ c.a = a := by cases c; simp
/-! Cells of a slice. -/
section
variable {H : AHeap} {A : AV} {l : List Ce}
theorem ces_len (l : List Ce) : (cesA l).length = l.length := List.length_map _
theorem ix_cell (lo : Nat) (hA : SlH H 3 A (cesA l)) (κ : IntKind) (z : Int) (h0 : 0 ≤ z) (h1 : z < l.length) : primL lo H (indexAddrA EO 45 A (.v (.int κ z))) = some (ixA A (cesA l) z.toNat, H, rdTr A) := index_SlH EO lo _ κ z hA (by kernel_rfl) h0 (by rw [ces_len]; exact h1)
theorem ld_cell (lo : Nat) (hA : SlH H 3 A (cesA l)) (j : Nat) (h : j < l.length) : primL lo H (loadA EO 61 (ixA A (cesA l) j)) = some (.agg [.v (.int .i32 (l.getD j zeroC).r), .v (.int .i64 (l.getD j zeroC).w), .v (.int .i64 (l.getD j zeroC).a)], H, rdTr A) := by
  rw [load_SlH EO lo 61 j hA (by rw [ces_len]; exact h), nth_cesA l j h]; rfl
theorem fa_cell (lo : Nat) (hA : SlH H 3 A (cesA l)) (j f : Nat) (h : f < 3) : primL lo H (fieldAddrA EO 61 f (ixA A (cesA l) j)) = some (fxA A (cesA l) j f, H, rdTr A) :=
  fieldAddr_SlH EO lo hA 61 f j (by
    have e : ∀ f, f < 3 → fieldOff EO.P 61 f = some f := by
      intro f h
      have : f = 0 ∨ f = 1 ∨ f = 2 := by omega
      rcases this with rfl | rfl | rfl
      · rfl
      · rfl
      · rfl
    exact e f h)
theorem lf_w (lo : Nat) (hA : SlH H 3 A (cesA l)) (j : Nat) (h : j < l.length) : primL lo H (loadA EO 3 (fxA A (cesA l) j 1)) = some (.v (.int .i64 (l.getD j zeroC).w), H, rdTr A) := by
  rw [loadF_SlH EO lo hA 3 j 1 (by rw [ces_len]; exact h) (by decide), nth_cesA l j h]; rfl
theorem lf_a (lo : Nat) (hA : SlH H 3 A (cesA l)) (j : Nat) (h : j < l.length) : primL lo H (loadA EO 3 (fxA A (cesA l) j 2)) = some (.v (.int .i64 (l.getD j zeroC).a), H, rdTr A) := by
  rw [loadF_SlH EO lo hA 3 j 2 (by rw [ces_len]; exact h) (by decide), nth_cesA l j h]; rfl
theorem lf_r (lo : Nat) (hA : SlH H 3 A (cesA l)) (j : Nat) (h : j < l.length) : primL lo H (loadA EO 21 (fxA A (cesA l) j 0)) = some (.v (.int .i32 (l.getD j zeroC).r), H, rdTr A) := by
  rw [loadF_SlH EO lo hA 21 j 0 (by rw [ces_len]; exact h) (by decide), nth_cesA l j h]; rfl
theorem len_cell (lo : Nat) (hA : SlH H 3 A (cesA l)) : primL lo H (builtinA EO .len #[45] 3 [A]) = some (.v (.int .i64 l.length), H, rdTr A) := by
  rw [len_SlH EO lo _ _ hA (by kernel_rfl), ces_len]
end
theorem eqC0 (r w a r' w' a' : Int) : eqPlan EO 61 false (.agg [.v (.int .i32 r), .v (.int .i64 w), .v (.int .i64 a)]) (.agg [.v (.int .i32 r'), .v (.int .i64 w'), .v (.int .i64 a')]) = .val (.v (.bool (decide (r = r' ∧ w = w' ∧ a = a')))) := by
  rw [eqCe _ _ _ _ _ _ _ eqT_cell, Bool.bne_false]
theorem eqC1 (r w a r' w' a' : Int) : eqPlan EO 61 true (.agg [.v (.int .i32 r), .v (.int .i64 w), .v (.int .i64 a)]) (.agg [.v (.int .i32 r'), .v (.int .i64 w'), .v (.int .i64 a')]) = .val (.v (.bool (!decide (r = r' ∧ w = w' ∧ a = a')))) := by
  rw [eqCe _ _ _ _ _ _ _ eqT_cell, Bool.bne_true]
section
variable {ys : List (Nat × LRec)} {lo : Nat} {H : AHeap}
theorem refRow_wc (lo : Nat) (H : AHeap) (A : AV) (l : List Ce) (wr : Bool) (hA : SlH H 3 A (cesA l)) (hlo : lo ≤ H.next) (hl : l.length < 2 ^ 40) (h32 : R32 l) :
    WC EO [] lo 30 [.agg [A, .v (.bool wr)]] H fun x _ => x = .v (.bool (decide (l.length ≤ 300 ∧ ∀ i, i < l.length → refOk l i))) := by
  have hA1 := hA.push ⟨47, 2, 0, [[A, .v (.bool wr)]], none⟩
  refine zvin Tryz.func30 Tryz.ntmps30 ?_
  repeat' (first
   | refine zka ?_
   | refine zkb ?_
   | (apply RKp.op; ((try simp (disch := (first | omega | exact zX | fail)) only [len_cell _ hA1, go_sem, Nat.reduceDiv, Nat.reduceMod, Nat.reduceAdd, Nat.reduceSub, Nat.reduceEqDiff, Nat.reduceLeDiff, Nat.reduceLT, Nat.reduceMul, reduceIte, Nat.reducePow, Int.reduceEq]); exact zL); rfl)
   | refine zkc ?_
   | apply RKg.tt
   | apply RKg.ff
   | refine zkd ?_
   | refine zke ?_
   | refine zkf ?_
   | (refine RKg.split (fun h => ?_) (fun h => ?_) <;> (try rw [h]) <;> (replace h := zB h) <;> (try (exfalso; first | exact h | omega)))
   | apply RK.nil
   | apply V.sq
   | apply V.bl
   | apply V.sc
   | apply V.skip
   | apply V.label
   | apply V.ret
   | apply V.exit
   | apply SeqQ.normal
   | apply SeqQ.ret
   | apply SeqQ.exit
   | apply BlockQ.normal
   | apply BlockQ.ret
   | apply BlockQ.here
   | refine zbt ?_
   | apply LoopS.ret
   | apply LoopS.exit
   | apply LoopF.ret
   | apply LoopF.exit
   | apply V.regK
    | refine zva ?_
   | refine zvb ?_
   | refine zvc ?_
   | refine zvd ?_
   | refine zve ?_
   | (refine zvf (fun h => ?_) (fun h => ?_) <;> (replace h := zB h) <;> (try (exfalso; first | exact h | omega)))
    | (refine zfc Tryz.results30 ?_; (try dsimp only)))
  apply V.lpF [4, 2, 7, 8, 9, 10, 11, 12, 13, 14, 15, 16, 17, 18, 19, 20, 21, 22, 23, 24, 25, 26, 27, 28, 29, 30, 31, 32, 33, 34, 35, 36, 37, 38, 39, 40, 41, 42, 43, 44, 45, 46, 47, 48, 49, 50, 51, 52, 53, 54, 55, 56, 57, 58, 59, 60, 61, 62, 63, 64, 65, 66, 67, 68, 69, 70, 71, 72, 73, 74, 75, 76, 77, 78, 79, 80, 81, 82] (fun m xs => ∃ (i : Nat) (g : _), xs = .v (.int .i64 i) :: g ∧ m = l.length - i ∧ i ≤ l.length ∧ ∀ j, j < i → refOk l j) l.length
  focus (intro xs; simp only [putMany, set2, Nat.reduceAdd, Nat.reduceDiv, Nat.reduceMod, nth_zero, nth_succ, List.set_cons_zero, List.set_cons_succ]; rfl)
  focus (first | rfl | simp only [readMany, nth_zero, nth_succ, Nat.reduceDiv, Nat.reduceMod])
  · exact ⟨0, _, rfl, rfl, Nat.zero_le _, fun j h => absurd h (Nat.not_lt_zero _)⟩
  · rintro m xs ⟨i, g, rfl, rfl, hi, hst⟩
    have hr := h32 i
    have e1 : ((i : Int) + 1).toNat = i + 1 := by omega
    have e2 : ((i : Int) - 1).toNat = i - 1 := by omega
    repeat' (first
     | refine zka ?_
     | refine zkb ?_
     | (apply RKp.op; ((try simp (disch := (first | omega | exact zX | fail)) only [len_cell _ hA1, ix_cell _ hA1, ld_cell _ hA1, fa_cell _ hA1, lf_w _ hA1, lf_a _ hA1, eqC0, eqC1, e1, e2, go_sem, Nat.reduceDiv, Nat.reduceMod, Nat.reduceAdd, Nat.reduceSub, Nat.reduceEqDiff, Nat.reduceLeDiff, Nat.reduceLT, Nat.reduceMul, reduceIte, Nat.reducePow, Int.reduceEq]); exact zL); rfl)
     | (apply RKp.call; (apply Cell_run <;> (exact zD)); rfl)
     | refine zkc ?_
     | apply RKg.tt
     | apply RKg.ff
     | refine zkd ?_
     | refine zke ?_
     | refine zkf ?_
     | (refine RKg.split (fun h => ?_) (fun h => ?_) <;> (try rw [h]) <;> (replace h := zB h) <;> (try (exfalso; first | exact h | omega)))
     | apply RK.nil
     | apply V.sq
     | apply V.bl
     | apply V.sc
     | apply V.skip
     | apply V.label
     | apply V.ret
     | apply V.exit
     | apply SeqQ.normal
     | apply SeqQ.ret
     | apply SeqQ.exit
     | apply BlockQ.normal
     | apply BlockQ.ret
     | apply BlockQ.here
     | refine zbt ?_
     | apply LoopS.ret
     | apply LoopS.exit
     | apply LoopF.ret
     | apply LoopF.exit
     | apply V.regK
      | refine zva ?_
     | refine zvb ?_
     | refine zvc ?_
     | refine zvd ?_
     | refine zve ?_
     | (refine zvf (fun h => ?_) (fun h => ?_) <;> (replace h := zB h) <;> (try (exfalso; first | exact h | omega)))
      | (refine zfc Tryz.results30 ?_; (try dsimp only)))
    all_goals
      (first
      | (refine LoopF.again (l.length - (i + 1)) (by rfl) (by omega) ⟨i + 1, _, rfl, rfl, by omega, fun j hj => ?_⟩
         rcases Nat.lt_succ_iff_lt_or_eq.1 hj with hj | rfl
         · exact hst j hj
         · grind [refOk, Ce.eqv])
      | (congr 2; rw [eq_comm, decide_eq_false_iff_not]; rintro ⟨_, h2⟩; have k := h2 i (by omega); grind [refOk, Ce.eqv])
      | (congr 2; rw [decide_eq_decide]; have : i = l.length := by omega
         subst this; exact ⟨fun e => ⟨by omega, hst⟩, fun e => by omega⟩)
      | trace_state)
end
end Go.Am

namespace Go.Am
open Go.Proofs
set_option maxRecDepth 8000
set_option maxHeartbeats 4000000
theorem flat_ces (l : List Ce) : FlatE (cesA l) := FlatE.map (fun c x hx => by simp at hx; rcases hx with rfl | rfl | rfl <;> rfl) l
theorem app_cell : appInfo EO.P 45 = some (61, 24, 3) := by kernel_rfl
theorem ces_nil {l : List Ce} : cesA l = [] ↔ l = [] := by cases l <;> simp

section
variable {ys : List (Nat × LRec)} {lo : Nat} {H : AHeap} {A B : AV} {l m : List Ce}
theorem Clone_run (hA : SlH H 3 A (cesA l)) (h0 : l ≠ []) (hl : l.length < 2 ^ 40) : CallO EO ys lo 78 [A] H (.os H.next 0 0 l.length) (H.push ⟨61, 3, 0, cesA l, none⟩) := by
  refine WC.ownO (x := fun m => .os m 0 0 l.length) (bs := fun _ => [⟨61, 3, 0, cesA l, none⟩]) rfl fun lo' H' hh => ?_
  have hA' := hA.two (.inr ⟨[], .inr List.mem_cons_self⟩) hh
  have hlo := lo_two hh
  have h1 : cesA l ≠ [] := fun e => h0 (ces_nil.1 e)
  have happ := append_new EO lo' (H := H') (t := 45) (s := .e0) (.inl rfl) app_cell hA' h1 (by rw [ces_len]; unfold roomMax; omega)
  have hne := fun xo yo => nilS_no EO lo' hA' (nilS_ne' hA' h1) 45 xo yo (by kernel_rfl)
  rw [ces_len] at happ
  refine zvin Tryz.func78 Tryz.ntmps78 ?_
  repeat' (first
   | refine zka ?_
   | refine zkb ?_
   | (apply RKp.op; ((try simp (disch := (first | omega | exact zX | fail)) only [hne, happ, go_sem, Nat.reduceDiv, Nat.reduceMod, Nat.reduceAdd, Nat.reduceSub, Nat.reduceEqDiff, Nat.reduceLeDiff, Nat.reduceLT, Nat.reduceMul, reduceIte, Nat.reducePow, Int.reduceEq]); exact zL); rfl)
   | refine zkc ?_
   | apply RKg.tt
   | apply RKg.ff
   | refine zkd ?_
   | refine zke ?_
   | refine zkf ?_
   | (refine RKg.split (fun h => ?_) (fun h => ?_) <;> (try rw [h]) <;> (replace h := zB h) <;> (try (exfalso; first | exact h | omega)))
   | apply RK.nil
   | apply V.sq
   | apply V.bl
   | apply V.sc
   | apply V.skip
   | apply V.label
   | apply V.ret
   | apply V.exit
   | apply SeqQ.normal
   | apply SeqQ.ret
   | apply SeqQ.exit
   | apply BlockQ.normal
   | apply BlockQ.ret
   | apply BlockQ.here
   | refine zbt ?_
   | apply LoopS.ret
   | apply LoopS.exit
   | apply LoopF.ret
   | apply LoopF.exit
   | apply V.regK
   | refine zvd ?_
   | refine zve ?_
   | (refine zvf (fun h => ?_) (fun h => ?_) <;> (replace h := zB h) <;> (try (exfalso; first | exact h | omega)))
    | (refine zfc Tryz.results78 ?_; (try dsimp only)))
  exact hands_os (b := ⟨61, 3, 0, cesA l, none⟩) (by omega) (by rw [get_push, if_pos rfl]) rfl (flat_ces l)
theorem Equal_run (hA : SlH H 3 A (cesA l)) (hB : SlH H 3 B (cesA m)) (hl : l.length < 2 ^ 40) (hm : m.length < 2 ^ 40) : CallRo EO ys lo 91 [A, B] H (.v (.bool (decide (l = m)))) := by
  refine WC.pureR rfl fun lo' H' hh => ?_
  have hA' := hA.two (.inr ⟨[], .inr (by simp)⟩) hh
  have hB' := hB.two (.inr ⟨[], .inr (by simp)⟩) hh
  refine zvin Tryz.func91 Tryz.ntmps91 ?_
  repeat' (first
   | refine zka ?_
   | refine zkb ?_
   | (apply RKp.op; ((try simp (disch := (first | omega | exact zX | fail)) only [len_cell _ hA', len_cell _ hB', go_sem, Nat.reduceDiv, Nat.reduceMod, Nat.reduceAdd, Nat.reduceSub, Nat.reduceEqDiff, Nat.reduceLeDiff, Nat.reduceLT, Nat.reduceMul, reduceIte, Nat.reducePow, Int.reduceEq]); exact zL); rfl)
   | refine zkc ?_
   | apply RKg.tt
   | apply RKg.ff
   | refine zkd ?_
   | refine zke ?_
   | refine zkf ?_
   | (refine RKg.split (fun h => ?_) (fun h => ?_) <;> (try rw [h]) <;> (replace h := zB h) <;> (try (exfalso; first | exact h | omega)))
   | apply RK.nil
   | apply V.sq
   | apply V.bl
   | apply V.sc
   | apply V.skip
   | apply V.label
   | apply V.ret
   | apply V.exit
   | apply SeqQ.normal
   | apply SeqQ.ret
   | apply SeqQ.exit
   | apply BlockQ.normal
   | apply BlockQ.ret
   | apply BlockQ.here
   | refine zbt ?_
   | apply LoopS.ret
   | apply LoopS.exit
   | apply LoopF.ret
   | apply LoopF.exit
   | apply V.regK
    | refine zva ?_
   | refine zvb ?_
   | refine zvc ?_
   | refine zvd ?_
   | refine zve ?_
   | (refine zvf (fun h => ?_) (fun h => ?_) <;> (replace h := zB h) <;> (try (exfalso; first | exact h | omega)))
    | (refine zfc Tryz.results91 ?_; (try dsimp only)))
  · rw [frzR_v]; congr 2
    rw [eq_comm, decide_eq_false_iff_not]
    rintro rfl; exact h rfl
  · have hlm : l.length = m.length := by omega
    apply V.lpF [13, 4, 5, 14, 15, 16, 17, 18, 19, 20, 21, 22, 23, 24, 25] (fun k xs => ∃ (i : Nat) (g : _), xs = .v (.int .i64 i) :: g ∧ k = l.length - i ∧ i ≤ l.length ∧ ∀ j, j < i → l.getD j zeroC = m.getD j zeroC) l.length
    focus (intro xs; simp only [putMany, set2, Nat.reduceAdd, Nat.reduceDiv, Nat.reduceMod, nth_zero, nth_succ, List.set_cons_zero, List.set_cons_succ]; rfl)
    focus (first | rfl | simp only [readMany, nth_zero, nth_succ, Nat.reduceDiv, Nat.reduceMod])
    · exact ⟨0, _, rfl, rfl, Nat.zero_le _, fun j h => absurd h (Nat.not_lt_zero _)⟩
    · rintro k xs ⟨i, g, rfl, rfl, hi, hst⟩
      repeat' (first
       | refine zka ?_
       | refine zkb ?_
       | (apply RKp.op; ((try simp (disch := (first | omega | exact zX | fail)) only [ix_cell _ hA', ix_cell _ hB', ld_cell _ hA', ld_cell _ hB', eqC0, eqC1, go_sem, Nat.reduceDiv, Nat.reduceMod, Nat.reduceAdd, Nat.reduceSub, Nat.reduceEqDiff, Nat.reduceLeDiff, Nat.reduceLT, Nat.reduceMul, reduceIte, Nat.reducePow, Int.reduceEq]); exact zL); rfl)
       | refine zkc ?_
       | apply RKg.tt
       | apply RKg.ff
       | refine zkd ?_
       | refine zke ?_
       | refine zkf ?_
       | (refine RKg.split (fun h => ?_) (fun h => ?_) <;> (try rw [h]) <;> (replace h := zB h) <;> (try (exfalso; first | exact h | omega)))
       | apply RK.nil
       | apply V.sq
       | apply V.bl
       | apply V.sc
       | apply V.skip
       | apply V.label
       | apply V.ret
       | apply V.exit
       | apply SeqQ.normal
       | apply SeqQ.ret
       | apply SeqQ.exit
       | apply BlockQ.normal
       | apply BlockQ.ret
       | apply BlockQ.here
       | refine zbt ?_
       | apply LoopS.ret
       | apply LoopS.exit
       | apply LoopF.ret
       | apply LoopF.exit
       | apply V.regK
        | refine zva ?_
       | refine zvb ?_
       | refine zvc ?_
       | refine zvd ?_
       | refine zve ?_
       | (refine zvf (fun h => ?_) (fun h => ?_) <;> (replace h := zB h) <;> (try (exfalso; first | exact h | omega)))
        | (refine zfc Tryz.results91 ?_; (try dsimp only)))
      · rw [frzR_v]; congr 2
        rw [eq_comm, decide_eq_false_iff_not]
        rintro rfl; simp at h
      · refine LoopF.again (l.length - (i + 1)) (by rfl) (by omega) ⟨i + 1, _, rfl, rfl, by omega, fun j hj => ?_⟩
        rcases Nat.lt_succ_iff_lt_or_eq.1 hj with hj | rfl
        · exact hst j hj
        · obtain ⟨h1, h2, h3⟩ := h
          exact Ce.eqv.2 ⟨h1, h2, h3⟩
      · rw [frzR_v]; congr 2
        rw [eq_comm, decide_eq_true_eq]
        refine List.ext_getElem hlm fun j h1 h2 => ?_
        have := hst j (by omega)
        simpa [List.getD_eq_getElem?_getD, List.getElem?_eq_getElem h1, List.getElem?_eq_getElem h2] using this
end
end Go.Am

namespace Go.Am
open Go.Proofs
set_option maxRecDepth 8000
set_option maxHeartbeats 4000000
theorem ces_take (l : List Ce) (a b : Nat) : ((cesA l).drop a).take (b - a) = cesA ((l.drop a).take (b - a)) := by simp [List.map_take, List.map_drop]
theorem sl_hi (lo : Nat) {H : AHeap} {A : AV} {l : List Ce} (hA : SlH H 3 A (cesA l)) (κ : IntKind) (z : Int) (h0 : 0 ≤ z) (h1 : z ≤ l.length) : primL lo H (sliceA EO 45 A none (some (.v (.int κ z))) none) = some (cutA A 0 z.toNat, H, rdTr A) :=
  slice_SlH EO lo (by kernel_rfl) hA none _ (bound_none 0) (bound_some κ z _ h0) (Nat.zero_le _) (by rw [ces_len]; omega)
theorem sl_lo (lo : Nat) {H : AHeap} {A : AV} {l : List Ce} (hA : SlH H 3 A (cesA l)) (κ : IntKind) (z : Int) (h0 : 0 ≤ z) (h1 : z ≤ l.length) : primL lo H (sliceA EO 45 A (some (.v (.int κ z))) none none) = some (cutA A z.toNat (cesA l).length, H, rdTr A) :=
  slice_SlH EO lo (by kernel_rfl) hA _ none (bound_some κ z _ h0) (bound_none _) (by rw [ces_len]; omega) (Nat.le_refl _)
theorem sl_lohi (lo : Nat) {H : AHeap} {A : AV} {l : List Ce} (hA : SlH H 3 A (cesA l)) (κ κ' : IntKind) (y z : Int) (h : 0 ≤ y) (h0 : y ≤ z) (h1 : z ≤ l.length) : primL lo H (sliceA EO 45 A (some (.v (.int κ y))) (some (.v (.int κ' z))) none) = some (cutA A y.toNat z.toNat, H, rdTr A) :=
  slice_SlH EO lo (by kernel_rfl) hA _ _ (bound_some κ y _ h) (bound_some κ' z _ (by omega)) (by omega) (by rw [ces_len]; omega)
theorem cut_hi {H : AHeap} {A : AV} {l : List Ce} (hA : SlH H 3 A (cesA l)) (n : Nat) (h : n ≤ l.length) : SlH H 3 (cutA A 0 n) (cesA (l.take n)) := by
  have := cutA_SlH (lo := 0) (hi := n) hA (Nat.zero_le _) (by rw [ces_len]; exact h)
  rw [ces_take] at this; exact this
theorem os_frz {H : AHeap} {lo n e : Nat} {l : List Ce} (hl : lo ≤ n) (hb : H.get n = some ⟨61, 3, e, cesA l, none⟩) : frzR H lo (.os n e 0 l.length) = .sl 3 (cesA l) := by
  rw [frzR_os H lo hl hb rfl rfl (by simp) (Nat.zero_lt_succ 2) (flat_ces l)]; simp only [List.drop_zero]; rw [List.take_of_length_le (by simp)]
theorem osC_frz {H : AHeap} {lo n e : Nat} {l : List Ce} (hl : lo ≤ n) (hb : H.get n = some ⟨61, 3, e, cesA l, none⟩) : frzC H lo (.os n e 0 l.length) = .sl 3 (cesA l) := by
  rw [frzC_os H lo hl hb rfl rfl (by simp) (Nat.zero_lt_succ 2) (flat_ces l)]; simp only [List.drop_zero]; rw [List.take_of_length_le (by simp)]
section
variable {ys : List (Nat × LRec)} {lo : Nat} {H : AHeap} {A B : AV} {l m : List Ce} {wr wr' : Bool}
end
end Go.Am

namespace Go.Am
set_option maxRecDepth 8000
set_option maxHeartbeats 1000000

/-- A row that may be, cell by cell. -/
def rowG (l : List Ce) : Prop := l.length ≤ 300 ∧ ∀ i, i < l.length → mayC (l.getD i zeroC).r (l.getD i zeroC).w (l.getD i zeroC).a ∧
  ((l.getD i zeroC).w = 0 → 0 < i ∧ (l.getD (i - 1) zeroC).w = 2 ∧ (l.getD (i - 1) zeroC).a = (l.getD i zeroC).a) ∧ ((l.getD i zeroC).w = 2 → i + 1 < l.length ∧ (l.getD (i + 1) zeroC).w = 0)
theorem rowG_P (l : List Ce) : rowP l ↔ rowG l := by
  constructor
  · rintro ⟨h1, h2, h3⟩
    refine ⟨h1, fun i hi => ?_⟩
    obtain ⟨a, b, c⟩ := h2 i hi
    refine ⟨a, fun e => ?_, fun e => ?_⟩
    · rw [decide_eq_true e] at b
      cases i with
      | zero => cases b
      | succ k => exact ⟨Nat.succ_pos k, by simpa [openB] using b, (c b).symm⟩
    · have ho : openB l (i + 1) = true := decide_eq_true e
      rcases Nat.lt_or_ge (i + 1) l.length with hl | hl
      · obtain ⟨_, b', _⟩ := h2 (i + 1) hl
        rw [ho] at b'
        exact ⟨hl, by simpa using b'.symm⟩
      · have : i + 1 = l.length := by omega
        rw [← this, ho] at h3; cases h3
  · rintro ⟨h1, h2⟩
    have hz : ∀ i, i < l.length → openB l i = decide ((l.getD i zeroC).w = 0) := by
      intro i hi
      cases i with
      | zero =>
        symm
        rw [show openB l 0 = false from rfl, decide_eq_false_iff_not]
        intro e
        exact absurd ((h2 0 hi).2.1 e).1 (Nat.lt_irrefl 0)
      | succ k =>
        show decide _ = decide _
        rw [decide_eq_decide]
        exact ⟨fun e => ((h2 k (by omega)).2.2 e).2, fun e => ((h2 (k + 1) hi).2.1 e).2.1⟩
    refine ⟨h1, fun i hi => ⟨(h2 i hi).1, hz i hi, fun e => ?_⟩, ?_⟩
    · rw [hz i hi, decide_eq_true_eq] at e
      obtain ⟨e1, _, e3⟩ := (h2 i hi).2.1 e
      cases i with
      | zero => omega
      | succ k => exact e3.symm
    · cases hl : l.length with
      | zero => rfl
      | succ k =>
        show decide _ = false
        rw [decide_eq_false_iff_not]
        intro e
        have := ((h2 k (by omega)).2.2 e).1
        omega
theorem rowG_R (l : List Ce) : (l.length ≤ 300 ∧ ∀ i, i < l.length → refOk l i) ↔ rowG l := by
  constructor
  · rintro ⟨h1, h2⟩
    refine ⟨h1, fun i hi => ?_⟩
    obtain ⟨a, b, c⟩ := h2 i hi
    refine ⟨a, fun e => ?_, fun e => ?_⟩
    · rcases Nat.eq_zero_or_pos i with h | h
      · exact absurd ⟨e, .inl h⟩ c
      · refine ⟨h, Classical.byContradiction fun q => c ⟨e, .inr (.inl q)⟩, Classical.byContradiction fun q => c ⟨e, .inr (.inr q)⟩⟩
    · have h3 : ¬ l.length ≤ i + 1 := fun q => b ⟨e, .inl q⟩
      have h4 : l.getD (i + 1) zeroC = ⟨0, 0, (l.getD i zeroC).a⟩ := Classical.byContradiction fun q => b ⟨e, .inr q⟩
      exact ⟨by omega, by rw [h4]⟩
  · rintro ⟨h1, h2⟩
    refine ⟨h1, fun i hi => ⟨(h2 i hi).1, ?_, ?_⟩⟩
    · rintro ⟨e, q⟩
      obtain ⟨h3, h4⟩ := (h2 i hi).2.2 e
      obtain ⟨h5, h6, _⟩ := h2 (i + 1) h3
      obtain ⟨_, _, h7⟩ := h6 h4
      rcases q with q | q
      · omega
      · refine q (Ce.eq ?_ h4 h7.symm)
        unfold mayC at h5
        omega
    · rintro ⟨e, q⟩
      obtain ⟨h3, h4, h5⟩ := (h2 i hi).2.1 e
      rcases q with q | q | q
      · omega
      · exact q h4
      · exact q h5
instance (l : List Ce) : Decidable (rowG l) := decidable_of_iff _ (rowG_P l)

/-- By places. -/
def tab (n : Nat) (f : Nat → Ce) : List Ce := (List.range n).map f
theorem tab_len (n : Nat) (f : Nat → Ce) : (tab n f).length = n := by simp [tab]
theorem tab_at (n : Nat) (f : Nat → Ce) (i : Nat) (h : i < n) : (tab n f).getD i zeroC = f i := by simp [tab, List.getD_eq_getElem?_getD, h]
theorem ce_ext {l l' : List Ce} (h : l.length = l'.length) (he : ∀ j, j < l.length → l.getD j zeroC = l'.getD j zeroC) : l = l' := by
  apply List.ext_getElem h
  intro i h1 h2
  have := he i h1
  simpa [List.getD_eq_getElem?_getD, List.getElem?_eq_getElem h1, List.getElem?_eq_getElem h2] using this
theorem ce_set (l : List Ce) (i j : Nat) (c : Ce) : (l.set i c).getD j zeroC = if i = j ∧ j < l.length then c else l.getD j zeroC := by
  simp only [List.getD_eq_getElem?_getD, List.getElem?_set]
  by_cases h : i = j
  · subst h
    by_cases h2 : i < l.length
    · simp [h2]
    · simp [h2, List.getElem?_eq_none (Nat.le_of_not_lt h2)]
  · simp [h]

/-- What row.put does. -/
def putL (l : List Ce) (col : Nat) (new : List Ce) : List Ce := tab l.length fun j =>
  if col ≤ j ∧ j < col + new.length then new.getD (j - col) zeroC
  else if j + 1 = col ∧ (l.getD col zeroC).w = 0 then blankC
  else if j = col + new.length ∧ (l.getD j zeroC).w = 0 then blankC
  else l.getD j zeroC
theorem putL_len (l : List Ce) (col : Nat) (new : List Ce) : (putL l col new).length = l.length := tab_len _ _
theorem putL_at (l : List Ce) (col : Nat) (new : List Ce) (j : Nat) (h : j < l.length) : (putL l col new).getD j zeroC = if col ≤ j ∧ j < col + new.length then new.getD (j - col) zeroC
  else if j + 1 = col ∧ (l.getD col zeroC).w = 0 then blankC
  else if j = col + new.length ∧ (l.getD j zeroC).w = 0 then blankC
  else l.getD j zeroC := tab_at _ _ _ h

/-- A half that is left alone. -/
def lone (o : List Ce) (i : Nat) : Prop := ((o.getD i zeroC).w = 2 ∧ (i + 1 = o.length ∨ (o.getD (i + 1) zeroC).w ≠ 0)) ∨ ((o.getD i zeroC).w = 0 ∧ (i = 0 ∨ (o.getD (i - 1) zeroC).w ≠ 2))
instance (o : List Ce) (i : Nat) : Decidable (lone o i) := inferInstanceAs (Decidable (_ ∨ _))
def fixTo (o : List Ce) : Nat → List Ce
  | 0 => o
  | i + 1 => if lone (fixTo o i) i then (fixTo o i).set i blankC else fixTo o i
theorem fixTo_len (o : List Ce) (i : Nat) : (fixTo o i).length = o.length := by
  induction i with
  | zero => rfl
  | succ i ih => simp only [fixTo]; split <;> simp [ih]

def blanks (n : Nat) : List Ce := List.replicate n blankC
theorem blanks_len (n : Nat) : (blanks n).length = n := by simp [blanks]

/-- A sign's cells, or one cell. -/
def signG (new : List Ce) : Prop := (∃ c, new = [c] ∧ c.w = 1 ∧ mayC c.r c.w c.a) ∨ (∃ c, new = [c, ⟨0, 0, c.a⟩] ∧ c.w = 2 ∧ mayC c.r c.w c.a)
theorem signG.len {new : List Ce} (h : signG new) : new.length = 1 ∨ new.length = 2 := by
  rcases h with ⟨c, rfl, _⟩ | ⟨c, rfl, _⟩
  · exact .inl rfl
  · exact .inr rfl

end Go.Am

namespace Go.Am
open Go.Proofs
set_option maxRecDepth 8000
set_option maxHeartbeats 4000000

/-- A row's value. -/
abbrev rowA (A : AV) (wr : Bool) : AV := .agg [A, .v (.bool wr)]
def ofC (r a : Int) : List Ce := if widthI r = 0 ∨ a < 0 ∨ 255 < a then [] else if widthI r = 2 then [⟨r, 2, a⟩, ⟨0, 0, a⟩] else [⟨r, 1, a⟩]
theorem ofA_Sl (r a : Int) : Sl 3 (ofA r a) (cesA (ofC r a)) := by
  by_cases h : widthI r = 0 ∨ a < 0 ∨ 255 < a
  · rw [ofA_nil h, ofC, if_pos h]; exact .inr ⟨rfl, .inr rfl⟩
  · by_cases h2 : widthI r = 2
    · rw [ofA_2 h h2, ofC, if_neg h, if_pos h2]; exact .inl rfl
    · rw [ofA_1 h h2, ofC, if_neg h, if_neg h2]; exact .inl rfl

/-- A sign's cells, or a pad. -/
def signI (new : List Ce) : Prop := (new.length = 1 ∧ (new.getD 0 zeroC).w = 1 ∧ mayC (new.getD 0 zeroC).r (new.getD 0 zeroC).w (new.getD 0 zeroC).a) ∨ (new.length = 2 ∧ (new.getD 0 zeroC).w = 2 ∧ mayC (new.getD 0 zeroC).r (new.getD 0 zeroC).w (new.getD 0 zeroC).a ∧ new.getD 1 zeroC = ⟨0, 0, (new.getD 0 zeroC).a⟩)
instance (new : List Ce) : Decidable (signI new) := inferInstanceAs (Decidable (_ ∨ _))
theorem signI_G {new : List Ce} (h : signI new) : signG new := by
  rcases h with ⟨h1, h2, h3⟩ | ⟨h1, h2, h3, h4⟩
  · match new, h1 with
    | [c], _ => exact .inl ⟨c, rfl, h2, h3⟩
  · match new, h1 with
    | [c, d], _ =>
      have : d = ⟨0, 0, c.a⟩ := h4
      subst this
      exact .inr ⟨c, rfl, h2, h3⟩
theorem signI_of (c : Ce) (t : List Ce) : (c :: t = ofC c.r c.a ∨ (t = [] ∧ c = padC)) ↔ signI (c :: t) := by
  have hw := widthI_range c.r
  obtain ⟨r, w, a⟩ := c
  simp only [ofC, signI, List.getD_cons_zero, List.length_cons, mayC]
  simp only at hw
  constructor
  · rintro (h | ⟨rfl, h⟩)
    · split at h
      · cases h
      · split at h
        · simp only [List.cons.injEq, Ce.mk.injEq] at h
          obtain ⟨⟨_, rfl, _⟩, rfl⟩ := h
          refine .inr ⟨rfl, rfl, ⟨by omega, .inr (.inr ⟨.inr rfl, by omega⟩)⟩, rfl⟩
        · simp only [List.cons.injEq, Ce.mk.injEq] at h
          obtain ⟨⟨_, rfl, _⟩, rfl⟩ := h
          refine .inl ⟨rfl, rfl, ⟨by omega, .inr (.inr ⟨.inl rfl, by omega⟩)⟩⟩
    · cases h
      exact .inl ⟨rfl, rfl, by decide, .inl ⟨rfl, rfl, rfl⟩⟩
  · rintro (⟨h1, h2, h3, h4⟩ | ⟨h1, h2, ⟨h3, h4⟩, h5⟩)
    · have ht : t = [] := List.eq_nil_of_length_eq_zero (by omega)
      subst ht h2
      rcases h4 with ⟨rfl, _, rfl⟩ | ⟨h, _⟩ | ⟨_, h⟩
      · exact .inr ⟨rfl, rfl⟩
      · cases h
      · left; rw [if_neg (by omega), if_neg (by omega)]
    · subst h2
      rw [if_neg (by omega), if_pos (by omega)]
      match t, h1 with
      | [d], _ =>
        left
        have : d = ⟨0, 0, a⟩ := h5
        rw [this]

/-- Cells written over others, one by one. -/
def setN (l : List Ce) (col : Nat) (new : List Ce) : Nat → List Ce
  | 0 => l
  | i + 1 => (setN l col new i).set (col + i) (new.getD i zeroC)
theorem setN_len (l : List Ce) (col : Nat) (new : List Ce) (i : Nat) : (setN l col new i).length = l.length := by
  induction i with
  | zero => rfl
  | succ i ih => simp [setN, ih]
theorem setN_at (l : List Ce) (col : Nat) (new : List Ce) (i j : Nat) (hj : j < l.length) : (setN l col new i).getD j zeroC = if col ≤ j ∧ j < col + i then new.getD (j - col) zeroC else l.getD j zeroC := by
  induction i with
  | zero => rw [if_neg (by omega)]; rfl
  | succ i ih =>
    simp only [setN]
    rw [ce_set, setN_len, ih]
    by_cases h : col + i = j
    · rw [if_pos ⟨h, hj⟩, if_pos (by omega), show j - col = i by omega]
    · rw [if_neg (fun e => h e.1)]
      by_cases h2 : col ≤ j ∧ j < col + i
      · rw [if_pos h2, if_pos (by omega)]
      · rw [if_neg h2, if_neg (by omega)]
/-- A block of cells. -/
abbrev cblk (e : Nat) (l : List Ce) : Blk := ⟨61, 3, e, cesA l, none⟩
abbrev rblk (A : AV) (wr : Bool) : Blk := ⟨47, 2, 0, [[A, .v (.bool wr)]], none⟩
section
variable {ys : List (Nat × LRec)} {lo : Nat} {H : AHeap} {A B : AV} {l m : List Ce} {wr wr' : Bool}
theorem EqCells_run (hA : SlH H 3 A (cesA l)) (hB : SlH H 3 B (cesA m)) (hl : l.length < 2 ^ 40) (hm : m.length < 2 ^ 40) : CallRo EO ys lo 68 [A, B] H (.v (.bool (decide (l = m)))) := by
  refine WC.pureR rfl fun lo' H' hh => ?_
  have hA' := hA.two (.inr ⟨[], .inr (by simp)⟩) hh
  have hB' := hB.two (.inr ⟨[], .inr (by simp)⟩) hh
  refine zvin Tryz.func68 Tryz.ntmps68 ?_
  repeat' (first
   | refine zka ?_
   | refine zkb ?_
   | (apply RKp.op; ((try simp (disch := (first | omega | exact zX | fail)) only [len_cell _ hA', len_cell _ hB', go_sem, Nat.reduceDiv, Nat.reduceMod, Nat.reduceAdd, Nat.reduceSub, Nat.reduceEqDiff, Nat.reduceLeDiff, Nat.reduceLT, Nat.reduceMul, reduceIte, Nat.reducePow, Int.reduceEq]); exact zL); rfl)
   | refine zkc ?_
   | apply RKg.tt
   | apply RKg.ff
   | refine zkd ?_
   | refine zke ?_
   | refine zkf ?_
   | (refine RKg.split (fun h => ?_) (fun h => ?_) <;> (try rw [h]) <;> (replace h := zB h) <;> (try (exfalso; first | exact h | omega)))
   | apply RK.nil
   | apply V.sq
   | apply V.bl
   | apply V.sc
   | apply V.skip
   | apply V.label
   | apply V.ret
   | apply V.exit
   | apply SeqQ.normal
   | apply SeqQ.ret
   | apply SeqQ.exit
   | apply BlockQ.normal
   | apply BlockQ.ret
   | apply BlockQ.here
   | refine zbt ?_
   | apply LoopS.ret
   | apply LoopS.exit
   | apply LoopF.ret
   | apply LoopF.exit
   | apply V.regK
    | refine zva ?_
   | refine zvb ?_
   | refine zvc ?_
   | refine zvd ?_
   | refine zve ?_
   | (refine zvf (fun h => ?_) (fun h => ?_) <;> (replace h := zB h) <;> (try (exfalso; first | exact h | omega)))
    | (refine zfc Tryz.results68 ?_; (try dsimp only)))
  · rw [frzR_v]; congr 2
    rw [eq_comm, decide_eq_false_iff_not]
    rintro rfl; exact h rfl
  · have hlm : l.length = m.length := by omega
    apply V.lpF [5, 4, 11, 12, 13, 14, 15, 16, 17, 18, 19, 20, 21, 22, 23, 24, 25] (fun k xs => ∃ (i : Nat) (g : _), xs = .v (.int .i64 i) :: g ∧ k = l.length - i ∧ i ≤ l.length ∧ ∀ j, j < i → l.getD j zeroC = m.getD j zeroC) l.length
    focus (intro xs; simp only [putMany, set2, Nat.reduceAdd, Nat.reduceDiv, Nat.reduceMod, nth_zero, nth_succ, List.set_cons_zero, List.set_cons_succ]; rfl)
    focus (first | rfl | simp only [readMany, nth_zero, nth_succ, Nat.reduceDiv, Nat.reduceMod])
    · exact ⟨0, _, rfl, rfl, Nat.zero_le _, fun j h => absurd h (Nat.not_lt_zero _)⟩
    · rintro k xs ⟨i, g, rfl, rfl, hi, hst⟩
      repeat' (first
       | refine zka ?_
       | refine zkb ?_
       | (apply RKp.op; ((try simp (disch := (first | omega | exact zX | fail)) only [len_cell _ hA', ix_cell _ hA', ix_cell _ hB', ld_cell _ hA', ld_cell _ hB', eqC1, Int.toNat_natCast, go_sem, Nat.reduceDiv, Nat.reduceMod, Nat.reduceAdd, Nat.reduceSub, Nat.reduceEqDiff, Nat.reduceLeDiff, Nat.reduceLT, Nat.reduceMul, reduceIte, Nat.reducePow, Int.reduceEq]); exact zL); rfl)
       | refine zkc ?_
       | apply RKg.tt
       | apply RKg.ff
       | refine zkd ?_
       | refine zke ?_
       | refine zkf ?_
       | (refine RKg.split (fun h => ?_) (fun h => ?_) <;> (try rw [h]) <;> (replace h := zB h) <;> (try (exfalso; first | exact h | omega)))
       | apply RK.nil
       | apply V.sq
       | apply V.bl
       | apply V.sc
       | apply V.skip
       | apply V.label
       | apply V.ret
       | apply V.exit
       | apply SeqQ.normal
       | apply SeqQ.ret
       | apply SeqQ.exit
       | apply BlockQ.normal
       | apply BlockQ.ret
       | apply BlockQ.here
       | refine zbt ?_
       | apply LoopS.ret
       | apply LoopS.exit
       | apply LoopF.ret
       | apply LoopF.exit
       | apply V.regK
        | refine zva ?_
       | refine zvb ?_
       | refine zvc ?_
       | refine zvd ?_
       | refine zve ?_
       | (refine zvf (fun h => ?_) (fun h => ?_) <;> (replace h := zB h) <;> (try (exfalso; first | exact h | omega)))
        | (refine zfc Tryz.results68 ?_; (try dsimp only)))
      · rw [frzR_v]; congr 2
        rw [eq_comm, decide_eq_false_iff_not]
        rintro rfl; simp at h
      · refine LoopF.again (l.length - (i + 1)) (by rfl) (by omega) ⟨i + 1, _, rfl, rfl, by omega, fun j hj => ?_⟩
        rcases Nat.lt_succ_iff_lt_or_eq.1 hj with hj | rfl
        · exact hst j hj
        · obtain ⟨h1, h2, h3⟩ := h
          exact Ce.eqv.2 ⟨h1, h2, h3⟩
      · rw [frzR_v]; congr 2
        rw [eq_comm, decide_eq_true_eq]
        exact ce_ext hlm fun j h1 => hst j (by omega)
theorem EqRow_run (hA : SlH H 3 A (cesA l)) (hB : SlH H 3 B (cesA m)) (hl : l.length < 2 ^ 40) (hm : m.length < 2 ^ 40) : CallRo EO ys lo 27 [rowA A wr, rowA B wr'] H (.v (.bool (decide (l = m ∧ wr = wr')))) := by
  refine WC.pureR rfl fun lo' H' hh => ?_
  have hA' := (hA.two (.inr ⟨[A, .v (.bool wr)], .inl (by simp)⟩) hh)
  have hB' := (hB.two (.inr ⟨[B, .v (.bool wr')], .inl (by simp)⟩) hh)
  have hA1 := (hA'.push (rblk A wr)).push (rblk B wr')
  have hB1 := (hB'.push (rblk A wr)).push (rblk B wr')
  refine zvin Tryz.func27 Tryz.ntmps27 ?_
  repeat' (first
   | refine zka ?_
   | refine zkb ?_
   | (apply RKp.op; ((try simp (disch := (first | omega | exact zX | fail)) only [go_sem, Nat.reduceDiv, Nat.reduceMod, Nat.reduceAdd, Nat.reduceSub, Nat.reduceEqDiff, Nat.reduceLeDiff, Nat.reduceLT, Nat.reduceMul, reduceIte, Nat.reducePow, Int.reduceEq]); exact zL); rfl)
   | (apply RKp.callR; (apply EqCells_run <;> (exact zD)); rfl; intro tr htr)
   | refine zkc ?_
   | apply RKg.tt
   | apply RKg.ff
   | refine zkd ?_
   | refine zke ?_
   | refine zkf ?_
   | (refine RKg.split (fun h => ?_) (fun h => ?_) <;> (try rw [h]) <;> (replace h := zB h) <;> (try (exfalso; first | exact h | omega)))
   | apply RK.nil
   | apply V.sq
   | apply V.bl
   | apply V.sc
   | apply V.skip
   | apply V.label
   | apply V.ret
   | apply V.exit
   | apply SeqQ.normal
   | apply SeqQ.ret
   | apply SeqQ.exit
   | apply BlockQ.normal
   | apply BlockQ.ret
   | apply BlockQ.here
   | refine zbt ?_
   | apply LoopS.ret
   | apply LoopS.exit
   | apply LoopF.ret
   | apply LoopF.exit
   | apply V.regK
   | refine zvd ?_
   | refine zve ?_
   | (refine zvf (fun h => ?_) (fun h => ?_) <;> (replace h := zB h) <;> (try (exfalso; first | exact h | omega)))
    | (refine zfc Tryz.results27 ?_; (try dsimp only)))
  all_goals (rw [frzR_v]; congr 2; rw [Bool.eq_iff_iff]; simp_all)
end
end Go.Am
