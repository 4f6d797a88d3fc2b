
/- Rows: signs; what is set, erased, used, first; the reference's. -/
import Derived.Test.YtoeemmlfcnokiaaARowI
set_option linter.all false
set_option linter.deprecated false
namespace Go.Am
open Go.Proofs
set_option maxRecDepth 8000
set_option maxHeartbeats 4000000
section
variable {ys : List (Nat × LRec)} {lo : Nat} {H : AHeap} {A B : AV} {l m : List Ce} {wr wr' : Bool}
theorem ofC_len (r a : Int) : (ofC r a).length < 2 ^ 40 := by unfold ofC; split <;> (try split) <;> simp
theorem May_R (hA : SlH H 3 A (cesA l)) (hl : l.length < 2 ^ 40) : CallRo EA ys lo 46 [rowA A wr] H (.v (.bool (decide (rowG l)))) := by
  refine WC.pureR rfl fun lo' H' hh => ?_
  have hA' := (hA.two (.inr ⟨[A, .v (.bool wr)], .inl (by simp)⟩) hh)
  obtain ⟨n, r, H'', h1, rfl⟩ := rowMay_wc lo' H' A l wr hA' (by rw [lo_two hh]; exact Nat.le_refl _) hl
  refine ⟨n, _, H'', h1, ?_⟩
  show frzR H'' lo' (.v _) = _
  rw [frzR_v]; congr 2; rw [decide_eq_decide]; exact rowG_P l
theorem sign_R (hB : SlH H 3 B (cesA m)) (hm : m.length < 2 ^ 40) : CallRo EA ys lo 47 [B] H (.v (.bool (decide (signI m)))) := by
  refine WC.pureR rfl fun lo' H' hh => ?_
  have hB' := (hB.two (.inr ⟨[], .inr (by simp)⟩) hh)
  have hof : SlH H' 3 (ofA (m.getD 0 zeroC).r (m.getD 0 zeroC).a) (cesA (ofC (m.getD 0 zeroC).r (m.getD 0 zeroC).a)) := .inl (ofA_Sl _ _)
  have hol := ofC_len (m.getD 0 zeroC).r (m.getD 0 zeroC).a
  refine zvin Try.func47 Try.ntmps47 ?_
  repeat' (first
   | refine zka ?_
   | refine zkb ?_
   | (apply RKp.op; ((try simp (disch := (first | omega | exact zX | fail)) only [len_cellX lo' hB', ix_cellX lo' hB', ld_cellX lo' hB', fa_cellX lo' hB', lf_wX lo' hB', lf_aX lo' hB', lf_rX lo' hB', sl_hiX lo' hB', sl_loX lo' hB', sl_lohiX lo' hB', Int.toNat_zero, go_sem, Nat.reduceDiv, Nat.reduceMod, Nat.reduceAdd, Nat.reduceSub, Nat.reduceEqDiff, Nat.reduceLeDiff, Nat.reduceLT, Nat.reduceMul, reduceIte, Nat.reducePow, Int.reduceEq]); exact zL); rfl)
   | (apply RKp.call; ((first | apply IsPad_run | apply Of_run) <;> (exact zD)); rfl)
   | (apply RKp.callR; (apply Equal_run <;> (exact zD)); rfl; intro tr htr)
   | refine zkc ?_
   | apply RKg.tt
   | apply RKg.ff
   | refine zkd ?_
   | refine zke ?_
   | refine zkf ?_
   | (refine RKg.split (fun h => ?_) (fun h => ?_) <;> (try rw [h]) <;> (replace h := zB h) <;> (try (exfalso; first | exact h | omega)))
   | apply RK.nil
   | apply V.sq
   | apply V.bl
   | apply V.sc
   | apply V.skip
   | apply V.label
   | apply V.ret
   | apply V.exit
   | apply SeqQ.normal
   | apply SeqQ.ret
   | apply SeqQ.exit
   | apply BlockQ.normal
   | apply BlockQ.ret
   | apply BlockQ.here
   | refine zbt ?_
   | apply LoopS.ret
   | apply LoopS.exit
   | apply LoopF.ret
   | apply LoopF.exit
   | apply V.regK
    | refine zva ?_
   | refine zvb ?_
   | refine zvc ?_
   | refine zvd ?_
   | refine zve ?_
   | (refine zvf (fun h => ?_) (fun h => ?_) <;> (replace h := zB h) <;> (try (exfalso; first | exact h | omega)))
    | (refine zfc Try.results47 ?_; (try dsimp only)))
  all_goals
    (rw [frzR_v]; congr 2; rw [Bool.eq_iff_iff, decide_eq_true_eq]
     match m with
     | [] => first | (simp [signI]; done) | (simp at *; done)
     | c :: t =>
       have hs := signI_of c t
       have hz : (t = []) ↔ ((c :: t).length = 1) := by cases t <;> simp
       have hp : c = padC ↔ c.r = 0 ∧ c.w = 1 ∧ c.a = 0 := Ce.eqv
       simp only [List.getD_cons_zero, List.length_cons, decide_eq_true_eq] at *
       rw [← hs, hp]
       first
       | (grind)
       | trace_state)
theorem frzC_own {H0 H : AHeap} {lo : Nat} {A : AV} {sz : Nat} {es : List (List AV)} (h : SlH H0 sz A es) (hlo : lo = H0.next) : frzC H lo A = A := by
  rcases h with (rfl | ⟨_, rfl | rfl⟩) | ⟨n, e, off, b, rfl, hn, _⟩
  · rfl
  · rfl
  · rfl
  · show renC H lo 0 [] frzDepth (.os n e off es.length) = _
    simp only [renC, if_pos (by omega : n < lo)]

/-- What Set is told to do may be done. -/
def setOk (l : List Ce) (col : Int) (m : List Ce) : Prop := rowG l ∧ signI m ∧ 0 ≤ col ∧ col ≤ (l.length : Int) - m.length
instance (l : List Ce) (col : Int) (m : List Ce) : Decidable (setOk l col m) := inferInstanceAs (Decidable (_ ∧ _))

/-- What Set tells. -/
def SetP (l : List Ce) (wr : Bool) (A : AV) (col : Int) (m : List Ce) (x : AV) : Prop :=
  (setOk l col m ∧ ∃ A', x = .tup [rowA A' wr, .v (.bool true)] ∧ Sl 3 A' (cesA (putL l col.toNat m))) ∨ (¬ setOk l col m ∧ x = .tup [rowA A wr, .v (.bool false)])
theorem Set_run (hA : SlH H 3 A (cesA l)) (hB : SlH H 3 B (cesA m)) (hl : l.length < 2 ^ 40) (hm : m.length < 2 ^ 40) (col : Int) (hc : -9223372036854775808 ≤ col ∧ col ≤ 9223372036854775807) : CallRoE EA ys lo 24 [rowA A wr, .v (.int .i64 col), B] H (SetP l wr A col m) := by
  refine WC.pureE rfl fun lo' H' hh => ?_
  have hA' := (hA.two (.inr ⟨[A, .v (.bool wr)], .inl (by simp)⟩) hh)
  have hB' := (hB.two (.inr ⟨[], .inr (by simp)⟩) hh)
  have hlo := lo_two hh
  have hA2 : SlH ((H'.push (rblk A wr)).push zblk) 3 A (cesA l) := (hA'.push _).push _
  have hB2 : SlH ((H'.push (rblk A wr)).push zblk) 3 B (cesA m) := (hB'.push _).push _
  by_cases hok : setOk l col m
  · have hok' := hok
    obtain ⟨h1, h2, h3, h4⟩ := hok'
    have hcn : ((col.toNat : Nat) : Int) = col := by omega
    have hp := fun hx => put_run (ys := []) (lo := lo') (wr := wr) (H := (H'.push (rblk A wr)).push zblk) hA2 hB2 hl col.toNat (by have := (signI_G h2).len; omega) (by have := (signI_G h2).len; omega) hx
    rw [hcn] at hp
    have hz : (l.getD col.toNat zeroC).w = 0 → 0 < col.toNat := fun e => (((h1.2 col.toNat (by have := (signI_G h2).len; omega)).2.1 e).1)
    have hp := hp hz
    have d1 : decide (rowG l) = true := decide_eq_true h1
    have d2 : decide (signI m) = true := decide_eq_true h2
    refine zvin Try.func24 Try.ntmps24 ?_
    repeat' (first
     | refine zka ?_
     | refine zkb ?_
     | (apply RKp.op; ((try simp (disch := (first | omega | exact zX | fail)) only [len_cellX lo' hA', ix_cellX lo' hA', ld_cellX lo' hA', fa_cellX lo' hA', lf_wX lo' hA', lf_aX lo' hA', lf_rX lo' hA', sl_hiX lo' hA', sl_loX lo' hA', sl_lohiX lo' hA', len_cellX lo' hB', ix_cellX lo' hB', ld_cellX lo' hB', fa_cellX lo' hB', lf_wX lo' hB', lf_aX lo' hB', lf_rX lo' hB', sl_hiX lo' hB', sl_loX lo' hB', sl_lohiX lo' hB', d1, d2, go_sem, Nat.reduceDiv, Nat.reduceMod, Nat.reduceAdd, Nat.reduceSub, Nat.reduceEqDiff, Nat.reduceLeDiff, Nat.reduceLT, Nat.reduceMul, reduceIte, Nat.reducePow, Int.reduceEq]); exact zL); rfl)
     | (apply RKp.call; (apply hp <;> (exact zD)); rfl)
     | (apply RKp.callR; ((first | apply May_R | apply sign_R | apply hp) <;> (exact zD)); rfl; intro tr htr)
     | (apply RKp.callO; (apply hp <;> (exact zD)); rfl; intro tr)
     | (apply RKp.callRE; (apply hp <;> (exact zD)); (intro x; rfl))
     | (apply RKp.callE; (apply hp <;> (exact zD)); (intro x; rfl))
     | refine zkc ?_
     | apply RKg.tt
     | apply RKg.ff
     | refine zkd ?_
     | refine zke ?_
     | refine zkf ?_
     | (refine RKg.split (fun h => ?_) (fun h => ?_) <;> (try rw [h]) <;> (replace h := zB h) <;> (try (exfalso; first | exact h | omega)))
     | apply RK.nil
     | apply V.sq
     | apply V.bl
     | apply V.sc
     | apply V.skip
     | apply V.label
     | apply V.ret
     | apply V.exit
     | apply SeqQ.normal
     | apply SeqQ.ret
     | apply SeqQ.exit
     | apply BlockQ.normal
     | apply BlockQ.ret
     | apply BlockQ.here
     | refine zbt ?_
     | apply LoopS.ret
     | apply LoopS.exit
     | apply LoopF.ret
     | apply LoopF.exit
     | apply V.regK
     | refine zvd ?_
     | refine zve ?_
     | (refine zvf (fun h => ?_) (fun h => ?_) <;> (replace h := zB h) <;> (try (exfalso; first | exact h | omega)))
      | (refine FnQ.retB (resct Try.results24) (by simp (disch := (first | omega | exact zX | fail)) only [cellR_op, len_cellX lo' hA', ix_cellX lo' hA', ld_cellX lo' hA', fa_cellX lo' hA', lf_wX lo' hA', lf_aX lo' hA', lf_rX lo' hA', sl_hiX lo' hA', sl_loX lo' hA', sl_lohiX lo' hA', len_cellX lo' hB', ix_cellX lo' hB', ld_cellX lo' hB', fa_cellX lo' hB', lf_wX lo' hB', lf_aX lo' hB', lf_rX lo' hB', sl_hiX lo' hB', sl_loX lo' hB', sl_lohiX lo' hB', d1, d2, go_sem, Nat.reduceDiv, Nat.reduceMod, Nat.reduceAdd, Nat.reduceSub, Nat.reduceEqDiff, Nat.reduceLeDiff, Nat.reduceLT, Nat.reduceMul, reduceIte, Nat.reducePow, Int.reduceEq]; rfl) ?_; (try dsimp only)))
    refine .inl ⟨hok, .sl 3 (cesA (putL l col.toNat m)), ?_, .inl rfl⟩
    rfl
  · refine zvin Try.func24 Try.ntmps24 ?_
    repeat' (first
     | refine zka ?_
     | refine zkb ?_
     | (apply RKp.op; ((try simp (disch := (first | omega | exact zX | fail)) only [len_cellX lo' hA', ix_cellX lo' hA', ld_cellX lo' hA', fa_cellX lo' hA', lf_wX lo' hA', lf_aX lo' hA', lf_rX lo' hA', sl_hiX lo' hA', sl_loX lo' hA', sl_lohiX lo' hA', len_cellX lo' hB', ix_cellX lo' hB', ld_cellX lo' hB', fa_cellX lo' hB', lf_wX lo' hB', lf_aX lo' hB', lf_rX lo' hB', sl_hiX lo' hB', sl_loX lo' hB', sl_lohiX lo' hB', go_sem, Nat.reduceDiv, Nat.reduceMod, Nat.reduceAdd, Nat.reduceSub, Nat.reduceEqDiff, Nat.reduceLeDiff, Nat.reduceLT, Nat.reduceMul, reduceIte, Nat.reducePow, Int.reduceEq]); exact zL); rfl)
     | (apply RKp.callR; ((first | apply May_R | apply sign_R) <;> (exact zD)); rfl; intro tr htr)
     | refine zkc ?_
     | apply RKg.tt
     | apply RKg.ff
     | refine zkd ?_
     | refine zke ?_
     | refine zkf ?_
     | (refine RKg.split (fun h => ?_) (fun h => ?_) <;> (try rw [h]) <;> (replace h := zB h) <;> (try (exfalso; first | exact h | omega)))
     | apply RK.nil
     | apply V.sq
     | apply V.bl
     | apply V.sc
     | apply V.skip
     | apply V.label
     | apply V.ret
     | apply V.exit
     | apply SeqQ.normal
     | apply SeqQ.ret
     | apply SeqQ.exit
     | apply BlockQ.normal
     | apply BlockQ.ret
     | apply BlockQ.here
     | refine zbt ?_
     | apply LoopS.ret
     | apply LoopS.exit
     | apply LoopF.ret
     | apply LoopF.exit
     | apply V.regK
     | refine zvd ?_
     | refine zve ?_
     | (refine zvf (fun h => ?_) (fun h => ?_) <;> (replace h := zB h) <;> (try (exfalso; first | exact h | omega)))
      | (refine FnQ.retB (resct Try.results24) (by simp (disch := (first | omega | exact zX | fail)) only [cellR_op, len_cellX lo' hA', ix_cellX lo' hA', ld_cellX lo' hA', fa_cellX lo' hA', lf_wX lo' hA', lf_aX lo' hA', lf_rX lo' hA', sl_hiX lo' hA', sl_loX lo' hA', sl_lohiX lo' hA', len_cellX lo' hB', ix_cellX lo' hB', ld_cellX lo' hB', fa_cellX lo' hB', lf_wX lo' hB', lf_aX lo' hB', lf_rX lo' hB', sl_hiX lo' hB', sl_loX lo' hB', sl_lohiX lo' hB', go_sem, Nat.reduceDiv, Nat.reduceMod, Nat.reduceAdd, Nat.reduceSub, Nat.reduceEqDiff, Nat.reduceLeDiff, Nat.reduceLT, Nat.reduceMul, reduceIte, Nat.reducePow, Int.reduceEq]; rfl) ?_; (try dsimp only)))
    all_goals first
      | (refine .inr ⟨hok, ?_⟩
         rw [frzR_tup, List.map_cons, List.map_cons, List.map_nil, frzR1_v, frzR1_agg, List.map_cons, List.map_cons, List.map_nil, frzC_v, frzC_own hA' hlo])
      | (exfalso; unfold setOk at hok; omega)
      | (exfalso; apply hok; unfold setOk; refine ⟨?_, ?_, ?_, ?_⟩ <;> first | assumption | omega)
      | trace_state
end
end Go.Am
