
/- Rows alike, of any rows that lie there. -/
import Derived.Test.YtmcimfmibpfnhaaGreatRLnC
set_option linter.all false
set_option linter.deprecated false
namespace Go.Am
variable {oc : Orc} [OrcI oc]
open Go.Proofs
set_option maxRecDepth 8000
set_option maxHeartbeats 4000000
theorem rw_ext' {l l' : List Rw} (h : l.length = l'.length) (he : ∀ j, j < l.length → l.getD j noRw = l'.getD j noRw) : l = l' := by
  apply List.ext_getElem h
  intro i h1 h2
  have := he i h1
  simpa [List.getD_eq_getElem?_getD, List.getElem?_eq_getElem h1, List.getElem?_eq_getElem h2] using this
section
variable {ys : List (Nat × LRec)} {lo : Nat} {H : AHeap} {A B : AV} {es es' : List (List AV)} {l l' : List Rw}
theorem EqRs_run (hA : SlH H 2 A es) (hr : RsP es l) (hB : SlH H 2 B es') (hs : RsP es' l') (hl : l.length < 2 ^ 40) (hl' : l'.length < 2 ^ 40) : CallRo (ELo oc) ys lo 30 [A, B] H (.v (.bool (decide (l = l')))) := by
  refine WC.pureR rfl fun lo' H' hh => ?_
  have hA' := hA.two (.inr ⟨[], .inr (by simp)⟩) hh
  have hB' := hB.two (.inr ⟨[], .inr (by simp)⟩) hh
  refine zvin Tryz.func30 Tryz.ntmps30 ?_
  repeat' (first | refine zka ?_ | refine zkb ?_ | (apply RKp.op; ((try simp (disch := (first | omega | exact zX | exact zO | fail)) only [lenR lo' hA' hr, lenR lo' hB' hs, go_sem, Nat.reduceDiv, Nat.reduceMod, Nat.reduceAdd, Nat.reduceSub, Nat.reduceEqDiff, Nat.reduceLeDiff, Nat.reduceLT, Nat.reduceMul, reduceIte, Nat.reducePow, Int.reduceEq]); exact zL); rfl) | refine zkc ?_ | apply RKg.tt | apply RKg.ff | refine zkd ?_ | refine zke ?_ | refine zkf ?_ | (refine RKg.split (fun h => ?_) (fun h => ?_) <;> (try rw [h]) <;> (replace h := zB h) <;> (try (exfalso; first | exact h | omega))) | apply RK.nil | apply V.sq | apply V.bl | apply V.sc | apply V.skip | apply V.label | apply V.ret | apply V.exit | apply SeqQ.normal | apply SeqQ.ret | apply SeqQ.exit | apply BlockQ.normal | apply BlockQ.ret | apply BlockQ.here | refine zbt ?_ | apply LoopS.ret | apply LoopS.exit | apply LoopF.ret | apply LoopF.exit | apply V.regK | refine zva ?_ | refine zvb ?_ | refine zgc ?_ | refine zvd ?_ | refine zve ?_ | (refine zvf (fun h => ?_) (fun h => ?_) <;> (replace h := zB h) <;> (try (exfalso; first | exact h | omega))) | (refine zfc Tryz.results30 ?_; (try dsimp only)))
  · rw [frzR_v]; congr 2
    rw [eq_comm, decide_eq_false_iff_not]
    rintro rfl; simp at h
  · have hlm : l.length = l'.length := by omega
    apply V.lpF [5, 4, 11, 12, 13, 14, 15, 16, 17, 18, 19, 20, 21, 22, 23, 24, 25, 26] (fun k xs => ∃ (i : Nat) (g : _), xs = .v (.int .i64 i) :: g ∧ k = l.length - i ∧ i ≤ l.length ∧ ∀ j, j < i → l.getD j noRw = l'.getD j noRw) l.length
    focus (intro xs; simp only [putMany, set2, Nat.reduceAdd, Nat.reduceDiv, Nat.reduceMod, nth_zero, nth_succ, List.set_cons_zero, List.set_cons_succ]; rfl)
    focus (first | rfl | simp only [readMany, nth_zero, nth_succ, Nat.reduceDiv, Nat.reduceMod])
    · exact ⟨0, _, rfl, rfl, Nat.zero_le _, fun j h => absurd h (Nat.not_lt_zero _)⟩
    · rintro k xs ⟨i, g, rfl, rfl, hi, hst⟩
      have heq := fun ys (h : i < l.length) => EqRow_run (ys := ys) (lo := lo') (H := H') (wr := (l.getD i noRw).2) (wr' := (l'.getD i noRw).2) (.inl (hr.sl i h)) (.inl (hs.sl i (by omega))) (by have := hr.lt i h; omega) (by have := hs.lt i (by omega); omega)
      repeat' (first | refine zka ?_ | refine zkb ?_ | (apply RKp.op; ((try simp (disch := (first | omega | exact zX | exact zO | fail)) only [lenR lo' hA' hr, lenR lo' hB' hs, ixR lo' hA' hr, ldR lo' hA' hr, ixR lo' hB' hs, ldR lo' hB' hs, Int.toNat_natCast, go_sem, Nat.reduceDiv, Nat.reduceMod, Nat.reduceAdd, Nat.reduceSub, Nat.reduceEqDiff, Nat.reduceLeDiff, Nat.reduceLT, Nat.reduceMul, reduceIte, Nat.reducePow, Int.reduceEq]); exact zL); rfl) | (apply RKp.callR; (apply heq <;> (exact zD)); rfl; intro tr htr) | refine zkc ?_ | apply RKg.tt | apply RKg.ff | refine zkd ?_ | refine zke ?_ | refine zkf ?_ | (refine RKg.split (fun h => ?_) (fun h => ?_) <;> (try rw [h]) <;> (replace h := zB h) <;> (try (exfalso; first | exact h | omega))) | apply RK.nil | apply V.sq | apply V.bl | apply V.sc | apply V.skip | apply V.label | apply V.ret | apply V.exit | apply SeqQ.normal | apply SeqQ.ret | apply SeqQ.exit | apply BlockQ.normal | apply BlockQ.ret | apply BlockQ.here | refine zbt ?_ | apply LoopS.ret | apply LoopS.exit | apply LoopF.ret | apply LoopF.exit | apply V.regK | refine zva ?_ | refine zvb ?_ | refine zgc ?_ | refine zvd ?_ | refine zve ?_ | (refine zvf (fun h => ?_) (fun h => ?_) <;> (replace h := zB h) <;> (try (exfalso; first | exact h | omega))) | (refine zfc Tryz.results30 ?_; (try dsimp only)))
      all_goals first
        | (rw [frzR_v]; congr 2
           rw [eq_comm, decide_eq_false_iff_not]
           rintro rfl; simp at h)
        | (refine LoopF.again (l.length - (i + 1)) (by rfl) (by omega) ⟨i + 1, _, rfl, rfl, by omega, fun j hj => ?_⟩
           rcases Nat.lt_succ_iff_lt_or_eq.1 hj with hj | rfl
           · exact hst j hj
           · exact Prod.ext h.1 h.2)
        | (rw [frzR_v]; congr 2
           rw [eq_comm, decide_eq_true_eq]
           exact rw_ext' hlm fun j h1 => hst j (by omega))
        | trace_state
end
end Go.Am
