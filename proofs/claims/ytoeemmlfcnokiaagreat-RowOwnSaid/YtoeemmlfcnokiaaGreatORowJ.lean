
/- Rows: signs; what is set, erased, used, first; the reference's. -/
import Derived.Test.YtoeemmlfcnokiaaGreatORowI
set_option linter.all false
set_option linter.deprecated false
namespace Go.Am
open Go.Proofs
set_option maxRecDepth 8000
set_option maxHeartbeats 4000000
section
variable {ys : List (Nat × LRec)} {lo : Nat} {H : AHeap} {A B : AV} {l m : List Ce} {wr wr' : Bool}
theorem ofC_len (r a : Int) : (ofC r a).length < 2 ^ 40 := by unfold ofC; split <;> (try split) <;> simp
theorem May_R (hA : SlH H 3 A (cesA l)) (hl : l.length < 2 ^ 40) : CallRo EO ys lo 61 [rowA A wr] H (.v (.bool (decide (rowG l)))) := by
  refine WC.pureR rfl fun lo' H' hh => ?_
  have hA' := (hA.two (.inr ⟨[A, .v (.bool wr)], .inl (by simp)⟩) hh)
  obtain ⟨n, r, H'', h1, rfl⟩ := rowMay_wc lo' H' A l wr hA' (by rw [lo_two hh]; exact Nat.le_refl _) hl
  refine ⟨n, _, H'', h1, ?_⟩
  show frzR H'' lo' (.v _) = _
  rw [frzR_v]; congr 2; rw [decide_eq_decide]; exact rowG_P l
theorem Row_R (hA : SlH H 3 A (cesA l)) (hl : l.length < 2 ^ 40) (h32 : R32 l) : CallRo EO ys lo 30 [rowA A wr] H (.v (.bool (decide (rowG l)))) := by
  refine WC.pureR rfl fun lo' H' hh => ?_
  have hA' := (hA.two (.inr ⟨[A, .v (.bool wr)], .inl (by simp)⟩) hh)
  obtain ⟨n, r, H'', h1, rfl⟩ := refRow_wc lo' H' A l wr hA' (by rw [lo_two hh]; exact Nat.le_refl _) hl h32
  refine ⟨n, _, H'', h1, ?_⟩
  show frzR H'' lo' (.v _) = _
  rw [frzR_v]; congr 2; rw [decide_eq_decide]; exact rowG_R l
theorem sign_R (hB : SlH H 3 B (cesA m)) (hm : m.length < 2 ^ 40) : CallRo EO ys lo 62 [B] H (.v (.bool (decide (signI m)))) := by
  refine WC.pureR rfl fun lo' H' hh => ?_
  have hB' := (hB.two (.inr ⟨[], .inr (by simp)⟩) hh)
  have hof : SlH H' 3 (ofA (m.getD 0 zeroC).r (m.getD 0 zeroC).a) (cesA (ofC (m.getD 0 zeroC).r (m.getD 0 zeroC).a)) := .inl (ofA_Sl _ _)
  have hol := ofC_len (m.getD 0 zeroC).r (m.getD 0 zeroC).a
  refine zvin Tryz.func62 Tryz.ntmps62 ?_
  repeat' (first
   | refine zka ?_
   | refine zkb ?_
   | (apply RKp.op; ((try simp (disch := (first | omega | exact zX | fail)) only [len_cellX lo' hB', ix_cellX lo' hB', ld_cellX lo' hB', fa_cellX lo' hB', lf_wX lo' hB', lf_aX lo' hB', lf_rX lo' hB', sl_hiX lo' hB', sl_loX lo' hB', sl_lohiX lo' hB', Int.toNat_zero, go_sem, Nat.reduceDiv, Nat.reduceMod, Nat.reduceAdd, Nat.reduceSub, Nat.reduceEqDiff, Nat.reduceLeDiff, Nat.reduceLT, Nat.reduceMul, reduceIte, Nat.reducePow, Int.reduceEq]); exact zL); rfl)
   | (apply RKp.call; ((first | apply IsPad_run | apply Of_run) <;> (exact zD)); rfl)
   | (apply RKp.callR; (apply Equal_run <;> (exact zD)); rfl; intro tr htr)
   | refine zkc ?_
   | apply RKg.tt
   | apply RKg.ff
   | refine zkd ?_
   | refine zke ?_
   | refine zkf ?_
   | (refine RKg.split (fun h => ?_) (fun h => ?_) <;> (try rw [h]) <;> (replace h := zB h) <;> (try (exfalso; first | exact h | omega)))
   | apply RK.nil
   | apply V.sq
   | apply V.bl
   | apply V.sc
   | apply V.skip
   | apply V.label
   | apply V.ret
   | apply V.exit
   | apply SeqQ.normal
   | apply SeqQ.ret
   | apply SeqQ.exit
   | apply BlockQ.normal
   | apply BlockQ.ret
   | apply BlockQ.here
   | refine zbt ?_
   | apply LoopS.ret
   | apply LoopS.exit
   | apply LoopF.ret
   | apply LoopF.exit
   | apply V.regK
    | refine zva ?_
   | refine zvb ?_
   | refine zvc ?_
   | refine zvd ?_
   | refine zve ?_
   | (refine zvf (fun h => ?_) (fun h => ?_) <;> (replace h := zB h) <;> (try (exfalso; first | exact h | omega)))
    | (refine zfc Tryz.results62 ?_; (try dsimp only)))
  all_goals
    (rw [frzR_v]; congr 2; rw [Bool.eq_iff_iff, decide_eq_true_eq]
     match m with
     | [] => first | (simp [signI]; done) | (simp at *; done)
     | c :: t =>
       have hs := signI_of c t
       have hz : (t = []) ↔ ((c :: t).length = 1) := by cases t <;> simp
       have hp : c = padC ↔ c.r = 0 ∧ c.w = 1 ∧ c.a = 0 := Ce.eqv
       simp only [List.getD_cons_zero, List.length_cons, decide_eq_true_eq] at *
       rw [← hs, hp]
       first
       | (grind)
       | trace_state)
/-- What Set is told to do may be done. -/
def setOk (l : List Ce) (col : Int) (m : List Ce) : Prop := rowG l ∧ signI m ∧ 0 ≤ col ∧ col ≤ (l.length : Int) - m.length
instance (l : List Ce) (col : Int) (m : List Ce) : Decidable (setOk l col m) := inferInstanceAs (Decidable (_ ∧ _))

end
end Go.Am
