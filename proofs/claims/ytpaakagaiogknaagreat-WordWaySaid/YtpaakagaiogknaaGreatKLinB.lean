
/- Lines: signs, rows that may be, lines that may be. -/
import Derived.Test.YtpaakagaiogknaaGreatKLinA
import Derived.Test.YtpaakagaiogknaaGreatKRowJ
set_option linter.all false
set_option linter.deprecated false
namespace Go.Am
variable {oc : Orc} [OrcI oc]
open Go.Proofs
set_option maxRecDepth 8000
set_option maxHeartbeats 4000000

section
variable {ys : List (Nat × LRec)} {lo : Nat} {H : AHeap} {A B : AV} {l m : List Ce} {wr wr' : Bool}
/-! Lines that may be. -/
theorem refLine_run (hA : SlH H 3 A (cesA l)) (hl : l.length < 2 ^ 40) (h32 : R32 l) : CallRo (ELo oc) ys lo 20 [A] H (.v (.bool (decide (lineG l)))) := by
  refine WC.pureR rfl fun lo' H' hh => ?_
  have hA' := hA.two (.inr ⟨[], .inr (by simp)⟩) hh
  have hlo := lo_two hh
  refine zvin Tryz.func20 Tryz.ntmps20 ?_
  repeat' (first | refine zka ?_ | refine zkb ?_ | (apply RKp.op; ((try simp (disch := (first | omega | exact zX | fail)) only [len_cellX lo' hA', ix_cellX lo' hA', ld_cellX lo' hA', fa_cellX lo' hA', lf_wX lo' hA', lf_aX lo' hA', lf_rX lo' hA', sl_hiX lo' hA', sl_loX lo' hA', sl_lohiX lo' hA', go_sem, Nat.reduceDiv, Nat.reduceMod, Nat.reduceAdd, Nat.reduceSub, Nat.reduceEqDiff, Nat.reduceLeDiff, Nat.reduceLT, Nat.reduceMul, reduceIte, Nat.reducePow, Int.reduceEq]); exact zL); rfl) | refine zkc ?_ | apply RKg.tt | apply RKg.ff | refine zkd ?_ | refine zke ?_ | refine zkf ?_ | (refine RKg.split (fun h => ?_) (fun h => ?_) <;> (try rw [h]) <;> (replace h := zB h) <;> (try (exfalso; first | exact h | omega))) | apply RK.nil | apply V.sq | apply V.bl | apply V.sc | apply V.skip | apply V.label | apply V.ret | apply V.exit | apply SeqQ.normal | apply SeqQ.ret | apply SeqQ.exit | apply BlockQ.normal | apply BlockQ.ret | apply BlockQ.here | refine zbt ?_ | apply LoopS.ret | apply LoopS.exit | apply LoopF.ret | apply LoopF.exit | apply V.regK | refine zva ?_ | refine zvb ?_ | refine zvc ?_ | refine zvd ?_ | refine zve ?_ | (refine zvf (fun h => ?_) (fun h => ?_) <;> (replace h := zB h) <;> (try (exfalso; first | exact h | omega))) | (refine zfc Tryz.results20 ?_; (try dsimp only)))
  apply V.lpF [3, 2, 4, 5, 6, 7, 8, 9, 10, 11, 12, 13, 14, 15, 16, 17, 18, 19, 20, 21, 22, 23, 24, 25, 26, 27, 28, 29, 30, 31] (fun k xs => ∃ (i : Nat) (g : _), xs = .v (.int .i64 i) :: g ∧ k = l.length - i ∧ i ≤ l.length ∧ ∀ j, j < i → lineC (l.getD j zeroC)) l.length
  focus (intro xs; simp only [putMany, set2, Nat.reduceAdd, Nat.reduceDiv, Nat.reduceMod, nth_zero, nth_succ, List.set_cons_zero, List.set_cons_succ]; rfl)
  focus (first | rfl | simp only [readMany, nth_zero, nth_succ, Nat.reduceDiv, Nat.reduceMod])
  · exact ⟨0, _, rfl, rfl, Nat.zero_le _, fun j h => absurd h (Nat.not_lt_zero _)⟩
  · rintro k xs ⟨i, g, rfl, rfl, hi, hst⟩
    have hr := h32 i
    by_cases hlt : i < l.length
    · have hmem : l.getD i zeroC ∈ l := by rw [List.getD_eq_getElem?_getD, List.getElem?_eq_getElem hlt]; exact List.getElem_mem _
      repeat' (first | refine zka ?_ | refine zkb ?_ | (apply RKp.op; ((try simp (disch := (first | omega | exact zX | fail)) only [len_cellX lo' hA', ix_cellX lo' hA', ld_cellX lo' hA', fa_cellX lo' hA', lf_wX lo' hA', lf_aX lo' hA', lf_rX lo' hA', sl_hiX lo' hA', sl_loX lo' hA', sl_lohiX lo' hA', Int.toNat_natCast, eqC0, go_sem, Nat.reduceDiv, Nat.reduceMod, Nat.reduceAdd, Nat.reduceSub, Nat.reduceEqDiff, Nat.reduceLeDiff, Nat.reduceLT, Nat.reduceMul, reduceIte, Nat.reducePow, Int.reduceEq]); exact zL); rfl) | (apply RKp.call; ((first | apply Cell_run | apply refPad_run) <;> (exact zD)); rfl) | refine zkc ?_ | apply RKg.tt | apply RKg.ff | refine zkd ?_ | refine zke ?_ | refine zkf ?_ | (refine RKg.split (fun h => ?_) (fun h => ?_) <;> (try rw [h]) <;> (replace h := zB h) <;> (try (exfalso; first | exact h | omega))) | apply RK.nil | apply V.sq | apply V.bl | apply V.sc | apply V.skip | apply V.label | apply V.ret | apply V.exit | apply SeqQ.normal | apply SeqQ.ret | apply SeqQ.exit | apply BlockQ.normal | apply BlockQ.ret | apply BlockQ.here | refine zbt ?_ | apply LoopS.ret | apply LoopS.exit | apply LoopF.ret | apply LoopF.exit | apply V.regK | refine zva ?_ | refine zvb ?_ | refine zvc ?_ | refine zvd ?_ | refine zve ?_ | (refine zvf (fun h => ?_) (fun h => ?_) <;> (replace h := zB h) <;> (try (exfalso; first | exact h | omega))) | (refine zfc Tryz.results20 ?_; (try dsimp only)))
      all_goals first
        | (rw [frzR_v]; congr 2
           rw [eq_comm, decide_eq_false_iff_not]
           intro hg
           obtain ⟨z1, z2, z3⟩ := hg _ hmem
           simp_all [Ce.eqv]; done)
        | (refine LoopF.again (l.length - (i + 1)) (by rfl) (by omega) ⟨i + 1, _, rfl, rfl, by omega, fun j hj => ?_⟩
           rcases Nat.lt_succ_iff_lt_or_eq.1 hj with hj | rfl
           · exact hst j hj
           · unfold lineC; simp_all [Ce.eqv]; done)
        | trace_state
    · have e : i = l.length := by omega
      subst e
      repeat' (first | refine zka ?_ | refine zkb ?_ | (apply RKp.op; ((try simp (disch := (first | omega | exact zX | fail)) only [len_cellX lo' hA', ix_cellX lo' hA', ld_cellX lo' hA', fa_cellX lo' hA', lf_wX lo' hA', lf_aX lo' hA', lf_rX lo' hA', sl_hiX lo' hA', sl_loX lo' hA', sl_lohiX lo' hA', go_sem, Nat.reduceDiv, Nat.reduceMod, Nat.reduceAdd, Nat.reduceSub, Nat.reduceEqDiff, Nat.reduceLeDiff, Nat.reduceLT, Nat.reduceMul, reduceIte, Nat.reducePow, Int.reduceEq]); exact zL); rfl) | refine zkc ?_ | apply RKg.tt | apply RKg.ff | refine zkd ?_ | refine zke ?_ | refine zkf ?_ | (refine RKg.split (fun h => ?_) (fun h => ?_) <;> (try rw [h]) <;> (replace h := zB h) <;> (try (exfalso; first | exact h | omega))) | apply RK.nil | apply V.sq | apply V.bl | apply V.sc | apply V.skip | apply V.label | apply V.ret | apply V.exit | apply SeqQ.normal | apply SeqQ.ret | apply SeqQ.exit | apply BlockQ.normal | apply BlockQ.ret | apply BlockQ.here | refine zbt ?_ | apply LoopS.ret | apply LoopS.exit | apply LoopF.ret | apply LoopF.exit | apply V.regK | refine zva ?_ | refine zvb ?_ | refine zvc ?_ | refine zvd ?_ | refine zve ?_ | (refine zvf (fun h => ?_) (fun h => ?_) <;> (replace h := zB h) <;> (try (exfalso; first | exact h | omega))) | (refine zfc Tryz.results20 ?_; (try dsimp only)))
      rw [frzR_v]; congr 2
      rw [eq_comm, decide_eq_true_eq]
      intro c hc
      obtain ⟨j, hj, rfl⟩ := List.mem_iff_getElem.1 hc
      have := hst j hj
      rwa [List.getD_eq_getElem?_getD, List.getElem?_eq_getElem hj] at this
end
end Go.Am
