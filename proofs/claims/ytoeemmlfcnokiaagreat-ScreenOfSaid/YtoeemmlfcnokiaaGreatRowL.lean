/- Rows: blank ones, what is erased; the reference's Set and Erase. -/
import Derived.Test.YtoeemmlfcnokiaaGreatRowK
set_option linter.all false
set_option linter.deprecated false
namespace Go.Am
open Go.Proofs
set_option maxRecDepth 8000
set_option maxHeartbeats 4000000
/-- What Erase is told to do may be done. -/
def eraOk (l : List Ce) (a b : Int) : Prop := rowG l ∧ 0 ≤ a ∧ a ≤ b ∧ b ≤ l.length
instance (l : List Ce) (a b : Int) : Decidable (eraOk l a b) := inferInstanceAs (Decidable (_ ∧ _))
def eraL (l : List Ce) (a b : Nat) : List Ce := if a = b then l else putL l a (blanks (b - a))
def eraW (l : List Ce) (wr : Bool) (a b : Int) : Bool := wr && decide (a = b ∨ b < l.length)
/-- What Erase tells. -/
def EraP (H : AHeap) (l : List Ce) (wr : Bool) (A : AV) (a b : Int) (x : AV) : Prop :=
  (eraOk l a b ∧ ∃ A', x = .tup [rowA A' (eraW l wr a b), .v (.bool true)] ∧ SlH H 3 A' (cesA (eraL l a.toNat b.toNat))) ∨ (¬ eraOk l a b ∧ x = .tup [rowA A wr, .v (.bool false)])
section
variable {ys : List (Nat × LRec)} {lo : Nat} {H : AHeap} {A B : AV} {l m : List Ce} {wr wr' : Bool}
theorem rowBlank_run (w : Int) (hw : -9223372036854775808 ≤ w ∧ w ≤ 9223372036854775807) : CallRo EZ ys lo 28 [.v (.int .i64 w)] H (rowA (.sl 3 (cesA (blanks (min (max w 0) 300).toNat))) false) := by
  refine WC.pureR rfl fun lo' H' hh => ?_
  have hlo := lo_two hh
  have hn : (((min (max w 0) 300).toNat : Nat) : Int) = min (max w 0) 300 := by omega
  have hrep := Repeat_run (ys := []) (lo := lo') (H := (H'.push zblk).push (cblk 0 [blankC])) (H'.next + 1) (min (max w 0) 300).toNat (by simp only [next_push]; omega) (by simp (disch := (first | omega | exact zX | fail)) only [get_set, get_push, next_push, next_set, if_pos', if_neg', if_true, if_false, reduceIte]) (by omega)
  rw [hn] at hrep
  refine zvin Tryz.func28 Tryz.ntmps28 ?_
  repeat' (first
   | refine zka ?_
   | refine zkb ?_
   | (apply RKp.op; ((try simp (disch := (first | omega | exact zX | fail)) only [go_sem, Nat.reduceDiv, Nat.reduceMod, Nat.reduceAdd, Nat.reduceSub, Nat.reduceEqDiff, Nat.reduceLeDiff, Nat.reduceLT, Nat.reduceMul, reduceIte, Nat.reducePow, Int.reduceEq]); exact zL); rfl)
   | (apply RKp.call; (apply Blank_run <;> (exact zD)); rfl)
   | (apply RKp.callR; (apply hrep <;> (exact zD)); rfl; intro tr htr)
   | refine zkc ?_
   | apply RKg.tt
   | apply RKg.ff
   | refine zkd ?_
   | refine zke ?_
   | refine zkf ?_
   | (refine RKg.split (fun h => ?_) (fun h => ?_) <;> (try rw [h]) <;> (replace h := zB h) <;> (try (exfalso; first | exact h | omega)))
   | apply RK.nil
   | apply V.sq
   | apply V.bl
   | apply V.sc
   | apply V.skip
   | apply V.label
   | apply V.ret
   | apply V.exit
   | apply SeqQ.normal
   | apply SeqQ.ret
   | apply SeqQ.exit
   | apply BlockQ.normal
   | apply BlockQ.ret
   | apply BlockQ.here
   | refine zbt ?_
   | apply LoopS.ret
   | apply LoopS.exit
   | apply LoopF.ret
   | apply LoopF.exit
   | apply V.regK
   | refine zvd ?_
   | refine zve ?_
   | (refine zvf (fun h => ?_) (fun h => ?_) <;> (replace h := zB h) <;> (try (exfalso; first | exact h | omega)))
    | (refine FnQ.retB (resc Tryz.results28) (by simp (disch := (first | omega | exact zX | fail)) only [cellR_op, go_sem, Nat.reduceDiv, Nat.reduceMod, Nat.reduceAdd, Nat.reduceSub, Nat.reduceEqDiff, Nat.reduceLeDiff, Nat.reduceLT, Nat.reduceMul, reduceIte, Nat.reducePow, Int.reduceEq]; rfl) ?_; (try dsimp only)))
  rfl
theorem Erase_run (hA : SlH H 3 A (cesA l)) (hl : l.length < 2 ^ 40) (a b : Int) (ha : -9223372036854775808 ≤ a ∧ a ≤ 9223372036854775807) (hb : -9223372036854775808 ≤ b ∧ b ≤ 9223372036854775807) : CallRoE EZ ys lo 25 [rowA A wr, .v (.int .i64 a), .v (.int .i64 b)] H (EraP H l wr A a b) := by
  refine WC.pureE rfl fun lo' H' hh => ?_
  have hA' := (hA.two (.inr ⟨[A, .v (.bool wr)], .inl (by simp)⟩) hh)
  have hlo := lo_two hh
  have hA2 : SlH ((H'.push (rblk A wr)).push zblk) 3 A (cesA l) := (hA'.push _).push _
  by_cases hok : eraOk l a b
  · have hok' := hok
    obtain ⟨h1, h2, h3, h4⟩ := hok'
    have h5 := h1.1
    have d1 : decide (rowG l) = true := decide_eq_true h1
    by_cases he : a = b
    · subst he
      refine zvin Tryz.func25 Tryz.ntmps25 ?_
      repeat' (first
       | refine zka ?_
       | refine zkb ?_
       | (apply RKp.op; ((try simp (disch := (first | omega | exact zX | fail)) only [len_cellX lo' hA', ix_cellX lo' hA', ld_cellX lo' hA', fa_cellX lo' hA', lf_wX lo' hA', lf_aX lo' hA', lf_rX lo' hA', sl_hiX lo' hA', sl_loX lo' hA', sl_lohiX lo' hA', d1, go_sem, Nat.reduceDiv, Nat.reduceMod, Nat.reduceAdd, Nat.reduceSub, Nat.reduceEqDiff, Nat.reduceLeDiff, Nat.reduceLT, Nat.reduceMul, reduceIte, Nat.reducePow, Int.reduceEq]); exact zL); rfl)
       | (apply RKp.callR; (apply May_R <;> (exact zD)); rfl; intro tr htr)
       | refine zkc ?_
       | apply RKg.tt
       | apply RKg.ff
       | refine zkd ?_
       | refine zke ?_
       | refine zkf ?_
       | (refine RKg.split (fun h => ?_) (fun h => ?_) <;> (try rw [h]) <;> (replace h := zB h) <;> (try (exfalso; first | exact h | omega)))
       | apply RK.nil
       | apply V.sq
       | apply V.bl
       | apply V.sc
       | apply V.skip
       | apply V.label
       | apply V.ret
       | apply V.exit
       | apply SeqQ.normal
       | apply SeqQ.ret
       | apply SeqQ.exit
       | apply BlockQ.normal
       | apply BlockQ.ret
       | apply BlockQ.here
       | refine zbt ?_
       | apply LoopS.ret
       | apply LoopS.exit
       | apply LoopF.ret
       | apply LoopF.exit
       | apply V.regK
        | refine zva ?_
       | refine zvb ?_
       | refine zvc ?_
       | refine zvd ?_
       | refine zve ?_
       | (refine zvf (fun h => ?_) (fun h => ?_) <;> (replace h := zB h) <;> (try (exfalso; first | exact h | omega)))
        | (refine FnQ.retB (resct Tryz.results25) (by simp (disch := (first | omega | exact zX | fail)) only [cellR_op, len_cellX lo' hA', ix_cellX lo' hA', ld_cellX lo' hA', fa_cellX lo' hA', lf_wX lo' hA', lf_aX lo' hA', lf_rX lo' hA', sl_hiX lo' hA', sl_loX lo' hA', sl_lohiX lo' hA', d1, go_sem, Nat.reduceDiv, Nat.reduceMod, Nat.reduceAdd, Nat.reduceSub, Nat.reduceEqDiff, Nat.reduceLeDiff, Nat.reduceLT, Nat.reduceMul, reduceIte, Nat.reducePow, Int.reduceEq]; rfl) ?_; (try dsimp only)))
      refine .inl ⟨hok, A, ?_, by unfold eraL; rw [if_pos rfl]; exact hA⟩
      rw [frzR_tup, List.map_cons, List.map_cons, List.map_nil, frzR1_v, frzR1_agg, List.map_cons, List.map_cons, List.map_nil, frzC_v, frzC_own hA' hlo]
      simp [eraW]
    · have hcn : ((a.toNat : Nat) : Int) = a := by omega
      have hz : (l.getD a.toNat zeroC).w = 0 → 0 < a.toNat := fun e => (((h1.2 a.toNat (by omega)).2.1 e).1)
      have hbn : (min (max (b - a) 0) 300).toNat = b.toNat - a.toNat := by omega
      have hp := put_run (ys := []) (lo := lo') (wr := wr) (H := (H'.push (rblk A wr)).push zblk) (B := .sl 3 (cesA (blanks (b.toNat - a.toNat)))) hA2 (.inl (.inl rfl)) hl a.toNat (by rw [blanks_len]; omega) (by rw [blanks_len]; omega) hz
      rw [hcn] at hp
      have hB' : SlH H' 3 (.sl 3 (cesA (putL l a.toNat (blanks (b.toNat - a.toNat))))) (cesA (putL l a.toNat (blanks (b.toNat - a.toNat)))) := .inl (.inl rfl)
      have hpl := putL_len l a.toNat (blanks (b.toNat - a.toNat))
      refine zvin Tryz.func25 Tryz.ntmps25 ?_
      repeat' (first
       | refine zka ?_
       | refine zkb ?_
       | (apply RKp.op; ((try simp (disch := (first | omega | exact zX | fail)) only [len_cellX lo' hA', ix_cellX lo' hA', ld_cellX lo' hA', fa_cellX lo' hA', lf_wX lo' hA', lf_aX lo' hA', lf_rX lo' hA', sl_hiX lo' hA', sl_loX lo' hA', sl_lohiX lo' hA', len_cellX lo' hB', ix_cellX lo' hB', ld_cellX lo' hB', fa_cellX lo' hB', lf_wX lo' hB', lf_aX lo' hB', lf_rX lo' hB', sl_hiX lo' hB', sl_loX lo' hB', sl_lohiX lo' hB', d1, hbn, hpl, go_sem, Nat.reduceDiv, Nat.reduceMod, Nat.reduceAdd, Nat.reduceSub, Nat.reduceEqDiff, Nat.reduceLeDiff, Nat.reduceLT, Nat.reduceMul, reduceIte, Nat.reducePow, Int.reduceEq]); exact zL); rfl)
       | (apply RKp.callR; ((first | apply May_R | apply rowBlank_run | apply hp) <;> (exact zD)); rfl; intro tr htr)
       | refine zkc ?_
       | apply RKg.tt
       | apply RKg.ff
       | refine zkd ?_
       | refine zke ?_
       | refine zkf ?_
       | (refine RKg.split (fun h => ?_) (fun h => ?_) <;> (try rw [h]) <;> (replace h := zB h) <;> (try (exfalso; first | exact h | omega)))
       | apply RK.nil
       | apply V.sq
       | apply V.bl
       | apply V.sc
       | apply V.skip
       | apply V.label
       | apply V.ret
       | apply V.exit
       | apply SeqQ.normal
       | apply SeqQ.ret
       | apply SeqQ.exit
       | apply BlockQ.normal
       | apply BlockQ.ret
       | apply BlockQ.here
       | refine zbt ?_
       | apply LoopS.ret
       | apply LoopS.exit
       | apply LoopF.ret
       | apply LoopF.exit
       | apply V.regK
        | refine zva ?_
       | refine zvb ?_
       | refine zvc ?_
       | refine zvd ?_
       | refine zve ?_
       | (refine zvf (fun h => ?_) (fun h => ?_) <;> (replace h := zB h) <;> (try (exfalso; first | exact h | omega)))
        | (refine FnQ.retB (resct Tryz.results25) (by simp (disch := (first | omega | exact zX | fail)) only [cellR_op, len_cellX lo' hA', ix_cellX lo' hA', ld_cellX lo' hA', fa_cellX lo' hA', lf_wX lo' hA', lf_aX lo' hA', lf_rX lo' hA', sl_hiX lo' hA', sl_loX lo' hA', sl_lohiX lo' hA', len_cellX lo' hB', ix_cellX lo' hB', ld_cellX lo' hB', fa_cellX lo' hB', lf_wX lo' hB', lf_aX lo' hB', lf_rX lo' hB', sl_hiX lo' hB', sl_loX lo' hB', sl_lohiX lo' hB', d1, hbn, hpl, go_sem, Nat.reduceDiv, Nat.reduceMod, Nat.reduceAdd, Nat.reduceSub, Nat.reduceEqDiff, Nat.reduceLeDiff, Nat.reduceLT, Nat.reduceMul, reduceIte, Nat.reducePow, Int.reduceEq]; rfl) ?_; (try dsimp only)))
      all_goals first
        | (refine .inl ⟨hok, .sl 3 (cesA (putL l a.toNat (blanks (b.toNat - a.toNat)))), ?_, by unfold eraL; rw [if_neg (by omega)]; exact .inl (.inl rfl)⟩
           rw [frzR_tup, List.map_cons, List.map_cons, List.map_nil, frzR1_v, frzR1_agg, List.map_cons, List.map_cons, List.map_nil, frzC_v, frzC_sl]
           first
           | (simp [eraW]; done)
           | (simp [eraW]; omega)
           | (unfold eraW; congr 5; simp_all; done)
           | (simp_all [eraW]; done)
           | trace_state)
        | trace_state
  · refine zvin Tryz.func25 Tryz.ntmps25 ?_
    repeat' (first
     | refine zka ?_
     | refine zkb ?_
     | (apply RKp.op; ((try simp (disch := (first | omega | exact zX | fail)) only [len_cellX lo' hA', ix_cellX lo' hA', ld_cellX lo' hA', fa_cellX lo' hA', lf_wX lo' hA', lf_aX lo' hA', lf_rX lo' hA', sl_hiX lo' hA', sl_loX lo' hA', sl_lohiX lo' hA', go_sem, Nat.reduceDiv, Nat.reduceMod, Nat.reduceAdd, Nat.reduceSub, Nat.reduceEqDiff, Nat.reduceLeDiff, Nat.reduceLT, Nat.reduceMul, reduceIte, Nat.reducePow, Int.reduceEq]); exact zL); rfl)
     | (apply RKp.callR; (apply May_R <;> (exact zD)); rfl; intro tr htr)
     | refine zkc ?_
     | apply RKg.tt
     | apply RKg.ff
     | refine zkd ?_
     | refine zke ?_
     | refine zkf ?_
     | (refine RKg.split (fun h => ?_) (fun h => ?_) <;> (try rw [h]) <;> (replace h := zB h) <;> (try (exfalso; first | exact h | omega)))
     | apply RK.nil
     | apply V.sq
     | apply V.bl
     | apply V.sc
     | apply V.skip
     | apply V.label
     | apply V.ret
     | apply V.exit
     | apply SeqQ.normal
     | apply SeqQ.ret
     | apply SeqQ.exit
     | apply BlockQ.normal
     | apply BlockQ.ret
     | apply BlockQ.here
     | refine zbt ?_
     | apply LoopS.ret
     | apply LoopS.exit
     | apply LoopF.ret
     | apply LoopF.exit
     | apply V.regK
      | refine zva ?_
     | refine zvb ?_
     | refine zvc ?_
     | refine zvd ?_
     | refine zve ?_
     | (refine zvf (fun h => ?_) (fun h => ?_) <;> (replace h := zB h) <;> (try (exfalso; first | exact h | omega)))
      | (refine FnQ.retB (resct Tryz.results25) (by simp (disch := (first | omega | exact zX | fail)) only [cellR_op, len_cellX lo' hA', ix_cellX lo' hA', ld_cellX lo' hA', fa_cellX lo' hA', lf_wX lo' hA', lf_aX lo' hA', lf_rX lo' hA', sl_hiX lo' hA', sl_loX lo' hA', sl_lohiX lo' hA', go_sem, Nat.reduceDiv, Nat.reduceMod, Nat.reduceAdd, Nat.reduceSub, Nat.reduceEqDiff, Nat.reduceLeDiff, Nat.reduceLT, Nat.reduceMul, reduceIte, Nat.reducePow, Int.reduceEq]; rfl) ?_; (try dsimp only)))
    all_goals first
      | (exfalso; apply hok; unfold eraOk; refine ⟨?_, ?_, ?_, ?_⟩ <;> first | assumption | omega)
      | (refine .inr ⟨hok, ?_⟩
         rw [frzR_tup, List.map_cons, List.map_cons, List.map_nil, frzR1_v, frzR1_agg, List.map_cons, List.map_cons, List.map_nil, frzC_v, frzC_own hA' hlo]
         done)
      | trace_state
theorem refErase_run (hA : SlH H 3 A (cesA l)) (hl : l.length < 2 ^ 40) (h32 : R32 l) (a b : Int) (ha : -9223372036854775808 ≤ a ∧ a ≤ 9223372036854775807) (hb : -9223372036854775808 ≤ b ∧ b ≤ 9223372036854775807) : CallRoE EZ ys lo 26 [rowA A wr, .v (.int .i64 a), .v (.int .i64 b)] H (EraP H l wr A a b) := by
  refine WC.pureE rfl fun lo' H' hh => ?_
  have hA' := (hA.two (.inr ⟨[A, .v (.bool wr)], .inl (by simp)⟩) hh)
  have hlo := lo_two hh
  have hA2 : SlH ((H'.push (rblk A wr)).push zblk) 3 A (cesA l) := (hA'.push _).push _
  by_cases hok : eraOk l a b
  · have hok' := hok
    obtain ⟨h1, h2, h3, h4⟩ := hok'
    have h5 := h1.1
    have d1 : decide (rowG l) = true := decide_eq_true h1
    have hmk := mark_run (ys := []) (lo := lo') (wr := wr) hA2 hl a.toNat (b.toNat - a.toNat) (by omega)
    rw [show ((a.toNat : Nat) : Int) = a by omega, show ((b.toNat - a.toNat : Nat) : Int) = b - a by omega] at hmk
    refine zvin Tryz.func26 Tryz.ntmps26 ?_
    repeat' (first
     | refine zka ?_
     | refine zkb ?_
     | (apply RKp.op; ((try simp (disch := (first | omega | exact zX | fail)) only [len_cellX lo' hA', ix_cellX lo' hA', ld_cellX lo' hA', fa_cellX lo' hA', lf_wX lo' hA', lf_aX lo' hA', lf_rX lo' hA', sl_hiX lo' hA', sl_loX lo' hA', sl_lohiX lo' hA', d1, go_sem, Nat.reduceDiv, Nat.reduceMod, Nat.reduceAdd, Nat.reduceSub, Nat.reduceEqDiff, Nat.reduceLeDiff, Nat.reduceLT, Nat.reduceMul, reduceIte, Nat.reducePow, Int.reduceEq]); exact zL); rfl)
     | (apply RKp.callR; (apply Row_R <;> (exact zD)); rfl; intro tr htr)
     | (apply RKp.callRE; (apply hmk <;> (exact zD)); (intro x; rfl))
     | refine zkc ?_
     | apply RKg.tt
     | apply RKg.ff
     | refine zkd ?_
     | refine zke ?_
     | refine zkf ?_
     | (refine RKg.split (fun h => ?_) (fun h => ?_) <;> (try rw [h]) <;> (replace h := zB h) <;> (try (exfalso; first | exact h | omega)))
     | apply RK.nil
     | apply V.sq
     | apply V.bl
     | apply V.sc
     | apply V.skip
     | apply V.label
     | apply V.ret
     | apply V.exit
     | apply SeqQ.normal
     | apply SeqQ.ret
     | apply SeqQ.exit
     | apply BlockQ.normal
     | apply BlockQ.ret
     | apply BlockQ.here
     | refine zbt ?_
     | apply LoopS.ret
     | apply LoopS.exit
     | apply LoopF.ret
     | apply LoopF.exit
     | apply V.regK
     | refine zvd ?_
     | refine zve ?_
     | (refine zvf (fun h => ?_) (fun h => ?_) <;> (replace h := zB h) <;> (try (exfalso; first | exact h | omega)))
      | (refine FnQ.retB (resct Tryz.results26) (by simp (disch := (first | omega | exact zX | fail)) only [cellR_op, len_cellX lo' hA', ix_cellX lo' hA', ld_cellX lo' hA', fa_cellX lo' hA', lf_wX lo' hA', lf_aX lo' hA', lf_rX lo' hA', sl_hiX lo' hA', sl_loX lo' hA', sl_lohiX lo' hA', d1, go_sem, Nat.reduceDiv, Nat.reduceMod, Nat.reduceAdd, Nat.reduceSub, Nat.reduceEqDiff, Nat.reduceLeDiff, Nat.reduceLT, Nat.reduceMul, reduceIte, Nat.reducePow, Int.reduceEq]; rfl) ?_; (try dsimp only)))
    rintro x tr htr ⟨A', rfl, hA3⟩
    have hfl := flat_Sl hA3
    have hev : overL l a.toNat (blanks (b.toNat - a.toNat)) = eraL l a.toNat b.toNat := by
      unfold eraL
      by_cases he : a.toNat = b.toNat
      · rw [if_pos he, he, Nat.sub_self]; exact over_none h1 _
      · rw [if_neg he]; exact over_blanks h1 _ _ (by omega) (by omega)
    rw [hev] at hA3
    repeat' (first
     | refine zka ?_
     | refine zkb ?_
     | (apply RKp.op; ((try simp (disch := (first | omega | exact zX | fail)) only [len_cellX lo' hA', ix_cellX lo' hA', ld_cellX lo' hA', fa_cellX lo' hA', lf_wX lo' hA', lf_aX lo' hA', lf_rX lo' hA', sl_hiX lo' hA', sl_loX lo' hA', sl_lohiX lo' hA', go_sem, Nat.reduceDiv, Nat.reduceMod, Nat.reduceAdd, Nat.reduceSub, Nat.reduceEqDiff, Nat.reduceLeDiff, Nat.reduceLT, Nat.reduceMul, reduceIte, Nat.reducePow, Int.reduceEq]); exact zL); rfl)
     | refine zkc ?_
     | apply RKg.tt
     | apply RKg.ff
     | refine zkd ?_
     | refine zke ?_
     | refine zkf ?_
     | (refine RKg.split (fun h => ?_) (fun h => ?_) <;> (try rw [h]) <;> (replace h := zB h) <;> (try (exfalso; first | exact h | omega)))
     | apply RK.nil
     | apply V.sq
     | apply V.bl
     | apply V.sc
     | apply V.skip
     | apply V.label
     | apply V.ret
     | apply V.exit
     | apply SeqQ.normal
     | apply SeqQ.ret
     | apply SeqQ.exit
     | apply BlockQ.normal
     | apply BlockQ.ret
     | apply BlockQ.here
     | refine zbt ?_
     | apply LoopS.ret
     | apply LoopS.exit
     | apply LoopF.ret
     | apply LoopF.exit
     | apply V.regK
     | refine zvd ?_
     | refine zve ?_
     | (refine zvf (fun h => ?_) (fun h => ?_) <;> (replace h := zB h) <;> (try (exfalso; first | exact h | omega)))
      | (refine FnQ.retB (resct Tryz.results26) (by simp (disch := (first | omega | exact zX | fail)) only [cellR_op, len_cellX lo' hA', ix_cellX lo' hA', ld_cellX lo' hA', fa_cellX lo' hA', lf_wX lo' hA', lf_aX lo' hA', lf_rX lo' hA', sl_hiX lo' hA', sl_loX lo' hA', sl_lohiX lo' hA', go_sem, Nat.reduceDiv, Nat.reduceMod, Nat.reduceAdd, Nat.reduceSub, Nat.reduceEqDiff, Nat.reduceLeDiff, Nat.reduceLT, Nat.reduceMul, reduceIte, Nat.reducePow, Int.reduceEq]; rfl) ?_; (try dsimp only)))
    all_goals
      (refine .inl ⟨hok, A', ?_, .inl hA3⟩
       rw [frzR_tup, List.map_cons, List.map_cons, List.map_nil, frzR1_v, frzR1_agg, List.map_cons, List.map_cons, List.map_nil, frzC_v, frzC_flat _ _ hfl]
       first
       | (simp [eraW]; done)
       | (simp [eraW]; omega)
       | (simp_all [eraW]; done)
       | (simp_all [eraW]; omega)
       | trace_state)
  · refine zvin Tryz.func26 Tryz.ntmps26 ?_
    repeat' (first
     | refine zka ?_
     | refine zkb ?_
     | (apply RKp.op; ((try simp (disch := (first | omega | exact zX | fail)) only [len_cellX lo' hA', ix_cellX lo' hA', ld_cellX lo' hA', fa_cellX lo' hA', lf_wX lo' hA', lf_aX lo' hA', lf_rX lo' hA', sl_hiX lo' hA', sl_loX lo' hA', sl_lohiX lo' hA', go_sem, Nat.reduceDiv, Nat.reduceMod, Nat.reduceAdd, Nat.reduceSub, Nat.reduceEqDiff, Nat.reduceLeDiff, Nat.reduceLT, Nat.reduceMul, reduceIte, Nat.reducePow, Int.reduceEq]); exact zL); rfl)
     | (apply RKp.callR; (apply Row_R <;> (exact zD)); rfl; intro tr htr)
     | refine zkc ?_
     | apply RKg.tt
     | apply RKg.ff
     | refine zkd ?_
     | refine zke ?_
     | refine zkf ?_
     | (refine RKg.split (fun h => ?_) (fun h => ?_) <;> (try rw [h]) <;> (replace h := zB h) <;> (try (exfalso; first | exact h | omega)))
     | apply RK.nil
     | apply V.sq
     | apply V.bl
     | apply V.sc
     | apply V.skip
     | apply V.label
     | apply V.ret
     | apply V.exit
     | apply SeqQ.normal
     | apply SeqQ.ret
     | apply SeqQ.exit
     | apply BlockQ.normal
     | apply BlockQ.ret
     | apply BlockQ.here
     | refine zbt ?_
     | apply LoopS.ret
     | apply LoopS.exit
     | apply LoopF.ret
     | apply LoopF.exit
     | apply V.regK
     | refine zvd ?_
     | refine zve ?_
     | (refine zvf (fun h => ?_) (fun h => ?_) <;> (replace h := zB h) <;> (try (exfalso; first | exact h | omega)))
      | (refine FnQ.retB (resct Tryz.results26) (by simp (disch := (first | omega | exact zX | fail)) only [cellR_op, len_cellX lo' hA', ix_cellX lo' hA', ld_cellX lo' hA', fa_cellX lo' hA', lf_wX lo' hA', lf_aX lo' hA', lf_rX lo' hA', sl_hiX lo' hA', sl_loX lo' hA', sl_lohiX lo' hA', go_sem, Nat.reduceDiv, Nat.reduceMod, Nat.reduceAdd, Nat.reduceSub, Nat.reduceEqDiff, Nat.reduceLeDiff, Nat.reduceLT, Nat.reduceMul, reduceIte, Nat.reducePow, Int.reduceEq]; rfl) ?_; (try dsimp only)))
    all_goals first
      | (exfalso; apply hok; unfold eraOk; refine ⟨?_, ?_, ?_, ?_⟩ <;> first | assumption | omega)
      | (refine .inr ⟨hok, ?_⟩
         rw [frzR_tup, List.map_cons, List.map_cons, List.map_nil, frzR1_v, frzR1_agg, List.map_cons, List.map_cons, List.map_nil, frzC_v, frzC_own hA' hlo]
         done)
      | trace_state
theorem refSet_run (hA : SlH H 3 A (cesA l)) (hB : SlH H 3 B (cesA m)) (hl : l.length < 2 ^ 40) (hm : m.length < 2 ^ 40) (h32 : R32 l) (h32m : R32 m) (col : Int) (hc : -9223372036854775808 ≤ col ∧ col ≤ 9223372036854775807) : CallRoE EZ ys lo 24 [rowA A wr, .v (.int .i64 col), B] H (SetP l wr A col m) := by
  refine WC.pureE rfl fun lo' H' hh => ?_
  have hA' := (hA.two (.inr ⟨[A, .v (.bool wr)], .inl (by simp)⟩) hh)
  have hB' := (hB.two (.inr ⟨[], .inr (by simp)⟩) hh)
  have hlo := lo_two hh
  have hA2 : SlH ((H'.push (rblk A wr)).push zblk) 3 A (cesA l) := (hA'.push _).push _
  have hB2 : SlH ((H'.push (rblk A wr)).push zblk) 3 B (cesA m) := (hB'.push _).push _
  have hr0 := h32m 0
  by_cases hok : setOk l col m
  · have hok' := hok
    obtain ⟨h1, h2, h3, h4⟩ := hok'
    have h5 := h1.1
    have d1 : decide (rowG l) = true := decide_eq_true h1
    have hsl := (signI_G h2).len
    have d3 : decide (mayC (m.getD 0 zeroC).r (m.getD 0 zeroC).w (m.getD 0 zeroC).a) = true := by
      rcases h2 with ⟨_, _, h⟩ | ⟨_, _, h, _⟩ <;> exact decide_eq_true h
    have hcn : ((col.toNat : Nat) : Int) = col := by omega
    have hmk := mark_run (ys := []) (lo := lo') (wr := wr) hA2 hl col.toNat m.length (by omega)
    rw [hcn] at hmk
    have key : ∀ x tr, RoT tr → (∃ A', x = rowA A' wr ∧ Sl 3 A' (cesA (overL l col.toNat (blanks m.length)))) → ∃ A', x = rowA A' wr ∧ Sl 3 A' (cesA (putL l col.toNat (blanks m.length))) := fun x tr _ ⟨A', h1', h2'⟩ => ⟨A', h1', by rw [over_blanks h1 _ _ (by omega) (by omega)] at h2'; exact h2'⟩
    have ho := fun (A' : AV) (hA3 : Sl 3 A' (cesA (putL l col.toNat (blanks m.length)))) => over_run (ys := []) (lo := lo') (wr := wr) (A := A') (H := (H'.push (rblk A wr)).push zblk) (.inl hA3) hB2 (by rw [putL_len]; exact hl) col.toNat (by rw [putL_len]; omega)
    rw [hcn] at ho
    have hfin := over_sign h1 col.toNat m (signI_G h2) (by omega)
    rcases h2 with ⟨k1, k2, k3⟩ | ⟨k1, k2, k3, k4⟩
    all_goals
      refine zvin Tryz.func24 Tryz.ntmps24 ?_
      repeat' (first
       | refine zka ?_
       | refine zkb ?_
       | (apply RKp.op; ((try simp (disch := (first | omega | exact zX | fail)) only [len_cellX lo' hA', ix_cellX lo' hA', ld_cellX lo' hA', fa_cellX lo' hA', lf_wX lo' hA', lf_aX lo' hA', lf_rX lo' hA', sl_hiX lo' hA', sl_loX lo' hA', sl_lohiX lo' hA', len_cellX lo' hB', ix_cellX lo' hB', ld_cellX lo' hB', fa_cellX lo' hB', lf_wX lo' hB', lf_aX lo' hB', lf_rX lo' hB', sl_hiX lo' hB', sl_loX lo' hB', sl_lohiX lo' hB', d1, d3, eqC0, Int.toNat_zero, Int.toNat_one, go_sem, Nat.reduceDiv, Nat.reduceMod, Nat.reduceAdd, Nat.reduceSub, Nat.reduceEqDiff, Nat.reduceLeDiff, Nat.reduceLT, Nat.reduceMul, reduceIte, Nat.reducePow, Int.reduceEq]); exact zL); rfl)
       | (apply RKp.call; ((first | apply refPad_run | apply Cell_run) <;> (exact zD)); rfl)
       | (apply RKp.callR; (apply Row_R <;> (exact zD)); rfl; intro tr htr)
       | (apply RKp.callRE; (apply hmk <;> (exact zD)); (intro x; rfl))
       | refine zkc ?_
       | apply RKg.tt
       | apply RKg.ff
       | refine zkd ?_
       | refine zke ?_
       | refine zkf ?_
       | (refine RKg.split (fun h => ?_) (fun h => ?_) <;> (try rw [h]) <;> (replace h := zB h) <;> (try (exfalso; first | exact h | omega)))
       | apply RK.nil
       | apply V.sq
       | apply V.bl
       | apply V.sc
       | apply V.skip
       | apply V.label
       | apply V.ret
       | apply V.exit
       | apply SeqQ.normal
       | apply SeqQ.ret
       | apply SeqQ.exit
       | apply BlockQ.normal
       | apply BlockQ.ret
       | apply BlockQ.here
       | refine zbt ?_
       | apply LoopS.ret
       | apply LoopS.exit
       | apply LoopF.ret
       | apply LoopF.exit
       | apply V.regK
        | refine zva ?_
       | refine zvb ?_
       | refine zvc ?_
       | refine zvd ?_
       | refine zve ?_
       | (refine zvf (fun h => ?_) (fun h => ?_) <;> (replace h := zB h) <;> (try (exfalso; first | exact h | omega)))
        | (refine FnQ.retB (resct Tryz.results24) (by simp (disch := (first | omega | exact zX | fail)) only [cellR_op, len_cellX lo' hA', ix_cellX lo' hA', ld_cellX lo' hA', fa_cellX lo' hA', lf_wX lo' hA', lf_aX lo' hA', lf_rX lo' hA', sl_hiX lo' hA', sl_loX lo' hA', sl_lohiX lo' hA', len_cellX lo' hB', ix_cellX lo' hB', ld_cellX lo' hB', fa_cellX lo' hB', lf_wX lo' hB', lf_aX lo' hB', lf_rX lo' hB', sl_hiX lo' hB', sl_loX lo' hB', sl_lohiX lo' hB', d1, d3, eqC0, Int.toNat_zero, Int.toNat_one, go_sem, Nat.reduceDiv, Nat.reduceMod, Nat.reduceAdd, Nat.reduceSub, Nat.reduceEqDiff, Nat.reduceLeDiff, Nat.reduceLT, Nat.reduceMul, reduceIte, Nat.reducePow, Int.reduceEq]; rfl) ?_; (try dsimp only)))
      all_goals first
        | (intro x tr htr hx
           obtain ⟨A', rfl, hA3⟩ := key x tr htr hx
           have ho' := ho A' hA3
           repeat' (first
            | refine zka ?_
            | refine zkb ?_
            | (apply RKp.op; ((try simp (disch := (first | omega | exact zX | fail)) only [len_cellX lo' hA', ix_cellX lo' hA', ld_cellX lo' hA', fa_cellX lo' hA', lf_wX lo' hA', lf_aX lo' hA', lf_rX lo' hA', sl_hiX lo' hA', sl_loX lo' hA', sl_lohiX lo' hA', len_cellX lo' hB', ix_cellX lo' hB', ld_cellX lo' hB', fa_cellX lo' hB', lf_wX lo' hB', lf_aX lo' hB', lf_rX lo' hB', sl_hiX lo' hB', sl_loX lo' hB', sl_lohiX lo' hB', go_sem, Nat.reduceDiv, Nat.reduceMod, Nat.reduceAdd, Nat.reduceSub, Nat.reduceEqDiff, Nat.reduceLeDiff, Nat.reduceLT, Nat.reduceMul, reduceIte, Nat.reducePow, Int.reduceEq]); exact zL); rfl)
            | (apply RKp.call; (apply ho' <;> (exact zD)); rfl)
            | (apply RKp.callR; (apply ho' <;> (exact zD)); rfl; intro tr htr)
            | (apply RKp.callO; (apply ho' <;> (exact zD)); rfl; intro tr)
            | (apply RKp.callRE; (apply ho' <;> (exact zD)); (intro x; rfl))
            | (apply RKp.callE; (apply ho' <;> (exact zD)); (intro x; rfl))
            | refine zkc ?_
            | apply RKg.tt
            | apply RKg.ff
            | refine zkd ?_
            | refine zke ?_
            | refine zkf ?_
            | (refine RKg.split (fun h => ?_) (fun h => ?_) <;> (try rw [h]) <;> (replace h := zB h) <;> (try (exfalso; first | exact h | omega)))
            | apply RK.nil
            | apply V.sq
            | apply V.bl
            | apply V.sc
            | apply V.skip
            | apply V.label
            | apply V.ret
            | apply V.exit
            | apply SeqQ.normal
            | apply SeqQ.ret
            | apply SeqQ.exit
            | apply BlockQ.normal
            | apply BlockQ.ret
            | apply BlockQ.here
            | refine zbt ?_
            | apply LoopS.ret
            | apply LoopS.exit
            | apply LoopF.ret
            | apply LoopF.exit
            | apply V.regK
             | refine zva ?_
            | refine zvb ?_
            | refine zvc ?_
            | refine zvd ?_
            | refine zve ?_
            | (refine zvf (fun h => ?_) (fun h => ?_) <;> (replace h := zB h) <;> (try (exfalso; first | exact h | omega)))
             | (refine FnQ.retB (resct Tryz.results24) (by simp (disch := (first | omega | exact zX | fail)) only [cellR_op, len_cellX lo' hA', ix_cellX lo' hA', ld_cellX lo' hA', fa_cellX lo' hA', lf_wX lo' hA', lf_aX lo' hA', lf_rX lo' hA', sl_hiX lo' hA', sl_loX lo' hA', sl_lohiX lo' hA', len_cellX lo' hB', ix_cellX lo' hB', ld_cellX lo' hB', fa_cellX lo' hB', lf_wX lo' hB', lf_aX lo' hB', lf_rX lo' hB', sl_hiX lo' hB', sl_loX lo' hB', sl_lohiX lo' hB', go_sem, Nat.reduceDiv, Nat.reduceMod, Nat.reduceAdd, Nat.reduceSub, Nat.reduceEqDiff, Nat.reduceLeDiff, Nat.reduceLT, Nat.reduceMul, reduceIte, Nat.reducePow, Int.reduceEq]; rfl) ?_; (try dsimp only)))
           rintro x tr2 htr2 ⟨A2, rfl, hA4⟩
           rw [hfin] at hA4
           have hfl := flat_Sl hA4
           repeat' (first
            | refine zka ?_
            | refine zkb ?_
            | (apply RKp.op; ((try simp (disch := (first | omega | exact zX | fail)) only [len_cellX lo' hA', ix_cellX lo' hA', ld_cellX lo' hA', fa_cellX lo' hA', lf_wX lo' hA', lf_aX lo' hA', lf_rX lo' hA', sl_hiX lo' hA', sl_loX lo' hA', sl_lohiX lo' hA', go_sem, Nat.reduceDiv, Nat.reduceMod, Nat.reduceAdd, Nat.reduceSub, Nat.reduceEqDiff, Nat.reduceLeDiff, Nat.reduceLT, Nat.reduceMul, reduceIte, Nat.reducePow, Int.reduceEq]); exact zL); rfl)
            | refine zkc ?_
            | apply RKg.tt
            | apply RKg.ff
            | refine zkd ?_
            | refine zke ?_
            | refine zkf ?_
            | (refine RKg.split (fun h => ?_) (fun h => ?_) <;> (try rw [h]) <;> (replace h := zB h) <;> (try (exfalso; first | exact h | omega)))
            | apply RK.nil
            | apply V.sq
            | apply V.bl
            | apply V.sc
            | apply V.skip
            | apply V.label
            | apply V.ret
            | apply V.exit
            | apply SeqQ.normal
            | apply SeqQ.ret
            | apply SeqQ.exit
            | apply BlockQ.normal
            | apply BlockQ.ret
            | apply BlockQ.here
            | refine zbt ?_
            | apply LoopS.ret
            | apply LoopS.exit
            | apply LoopF.ret
            | apply LoopF.exit
            | apply V.regK
             | refine zva ?_
            | refine zvb ?_
            | refine zvc ?_
            | refine zvd ?_
            | refine zve ?_
            | (refine zvf (fun h => ?_) (fun h => ?_) <;> (replace h := zB h) <;> (try (exfalso; first | exact h | omega)))
             | (refine FnQ.retB (resct Tryz.results24) (by simp (disch := (first | omega | exact zX | fail)) only [cellR_op, len_cellX lo' hA', ix_cellX lo' hA', ld_cellX lo' hA', fa_cellX lo' hA', lf_wX lo' hA', lf_aX lo' hA', lf_rX lo' hA', sl_hiX lo' hA', sl_loX lo' hA', sl_lohiX lo' hA', go_sem, Nat.reduceDiv, Nat.reduceMod, Nat.reduceAdd, Nat.reduceSub, Nat.reduceEqDiff, Nat.reduceLeDiff, Nat.reduceLT, Nat.reduceMul, reduceIte, Nat.reducePow, Int.reduceEq]; rfl) ?_; (try dsimp only)))
           refine .inl ⟨hok, A2, ?_, hA4⟩
           rw [frzR_tup, List.map_cons, List.map_cons, List.map_nil, frzR1_v, frzR1_agg, List.map_cons, List.map_cons, List.map_nil, frzC_v, frzC_flat _ _ hfl])
        | (exfalso; rename_i h; apply h; rw [k4]; exact ⟨rfl, rfl, rfl⟩)
        | trace_state
  · refine zvin Tryz.func24 Tryz.ntmps24 ?_
    repeat' (first
     | refine zka ?_
     | refine zkb ?_
     | (apply RKp.op; ((try simp (disch := (first | omega | exact zX | fail)) only [len_cellX lo' hA', ix_cellX lo' hA', ld_cellX lo' hA', fa_cellX lo' hA', lf_wX lo' hA', lf_aX lo' hA', lf_rX lo' hA', sl_hiX lo' hA', sl_loX lo' hA', sl_lohiX lo' hA', len_cellX lo' hB', ix_cellX lo' hB', ld_cellX lo' hB', fa_cellX lo' hB', lf_wX lo' hB', lf_aX lo' hB', lf_rX lo' hB', sl_hiX lo' hB', sl_loX lo' hB', sl_lohiX lo' hB', eqC0, Int.toNat_zero, Int.toNat_one, go_sem, Nat.reduceDiv, Nat.reduceMod, Nat.reduceAdd, Nat.reduceSub, Nat.reduceEqDiff, Nat.reduceLeDiff, Nat.reduceLT, Nat.reduceMul, reduceIte, Nat.reducePow, Int.reduceEq]); exact zL); rfl)
     | (apply RKp.call; ((first | apply refPad_run | apply Cell_run) <;> (exact zD)); rfl)
     | (apply RKp.callR; (apply Row_R <;> (exact zD)); rfl; intro tr htr)
     | refine zkc ?_
     | apply RKg.tt
     | apply RKg.ff
     | refine zkd ?_
     | refine zke ?_
     | refine zkf ?_
     | (refine RKg.split (fun h => ?_) (fun h => ?_) <;> (try rw [h]) <;> (replace h := zB h) <;> (try (exfalso; first | exact h | omega)))
     | apply RK.nil
     | apply V.sq
     | apply V.bl
     | apply V.sc
     | apply V.skip
     | apply V.label
     | apply V.ret
     | apply V.exit
     | apply SeqQ.normal
     | apply SeqQ.ret
     | apply SeqQ.exit
     | apply BlockQ.normal
     | apply BlockQ.ret
     | apply BlockQ.here
     | refine zbt ?_
     | apply LoopS.ret
     | apply LoopS.exit
     | apply LoopF.ret
     | apply LoopF.exit
     | apply V.regK
      | refine zva ?_
     | refine zvb ?_
     | refine zvc ?_
     | refine zvd ?_
     | refine zve ?_
     | (refine zvf (fun h => ?_) (fun h => ?_) <;> (replace h := zB h) <;> (try (exfalso; first | exact h | omega)))
      | (refine FnQ.retB (resct Tryz.results24) (by simp (disch := (first | omega | exact zX | fail)) only [cellR_op, len_cellX lo' hA', ix_cellX lo' hA', ld_cellX lo' hA', fa_cellX lo' hA', lf_wX lo' hA', lf_aX lo' hA', lf_rX lo' hA', sl_hiX lo' hA', sl_loX lo' hA', sl_lohiX lo' hA', len_cellX lo' hB', ix_cellX lo' hB', ld_cellX lo' hB', fa_cellX lo' hB', lf_wX lo' hB', lf_aX lo' hB', lf_rX lo' hB', sl_hiX lo' hB', sl_loX lo' hB', sl_lohiX lo' hB', eqC0, Int.toNat_zero, Int.toNat_one, go_sem, Nat.reduceDiv, Nat.reduceMod, Nat.reduceAdd, Nat.reduceSub, Nat.reduceEqDiff, Nat.reduceLeDiff, Nat.reduceLT, Nat.reduceMul, reduceIte, Nat.reducePow, Int.reduceEq]; rfl) ?_; (try dsimp only)))
    all_goals first
      | (refine .inr ⟨hok, ?_⟩
         rw [frzR_tup, List.map_cons, List.map_cons, List.map_nil, frzR1_v, frzR1_agg, List.map_cons, List.map_cons, List.map_nil, frzC_v, frzC_own hA' hlo]
         done)
      | (exfalso; apply hok; refine ⟨?_, ?_, ?_, ?_⟩ <;> first | assumption | omega | (unfold signI; grind [Ce.eqv, mayC]))
      | trace_state
end
end Go.Am
