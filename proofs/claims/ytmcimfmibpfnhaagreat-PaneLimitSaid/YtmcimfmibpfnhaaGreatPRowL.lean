
/- Rows: blank ones, what is erased; the reference's Set and Erase. -/
import Derived.Test.YtmcimfmibpfnhaaGreatPRowK
set_option linter.all false
set_option linter.deprecated false
namespace Go.Am
variable {oc : Orc} [OrcI oc] [OrcF oc]
open Go.Proofs
set_option maxRecDepth 8000
set_option maxHeartbeats 4000000

/-- What Erase is told to do may be done. -/
def eraOk (l : List Ce) (a b : Int) : Prop := rowG l ∧ 0 ≤ a ∧ a ≤ b ∧ b ≤ l.length
instance (l : List Ce) (a b : Int) : Decidable (eraOk l a b) := inferInstanceAs (Decidable (_ ∧ _))
def eraL (l : List Ce) (a b : Nat) : List Ce := if a = b then l else putL l a (blanks (b - a))
def eraW (l : List Ce) (wr : Bool) (a b : Int) : Bool := wr && decide (a = b ∨ b < l.length)

/-- What Erase tells. -/
def EraP (H : AHeap) (l : List Ce) (wr : Bool) (A : AV) (a b : Int) (x : AV) : Prop :=
  (eraOk l a b ∧ ∃ A', x = .tup [rowA A' (eraW l wr a b), .v (.bool true)] ∧ SlH H 3 A' (cesA (eraL l a.toNat b.toNat))) ∨ (¬ eraOk l a b ∧ x = .tup [rowA A wr, .v (.bool false)])
section
variable {ys : List (Nat × LRec)} {lo : Nat} {H : AHeap} {A B : AV} {l m : List Ce} {wr wr' : Bool}
theorem rowBlank_run (w : Int) (hw : -9223372036854775808 ≤ w ∧ w ≤ 9223372036854775807) : CallRo (ELo oc) ys lo 75 [.v (.int .i64 w)] H (rowA (.sl 3 (cesA (blanks (min (max w 0) 300).toNat))) false) := by
  refine WC.pureR pB_pure fun lo' H' hh => ?_
  have hlo := lo_two hh
  have hn : (((min (max w 0) 300).toNat : Nat) : Int) = min (max w 0) 300 := by omega
  have hrep := Repeat_run (ys := []) (lo := lo') (H := (H'.push zblk).push (cblk 0 [blankC])) (H'.next + 1) (min (max w 0) 300).toNat (by simp only [next_push]; omega) (by simp (disch := (first | omega | exact zX | fail)) only [get_set, get_push, next_push, next_set, if_pos', if_neg', if_true, if_false, reduceIte]) (by omega)
  rw [hn] at hrep
  refine zvin Tryz.func75 Tryz.ntmps75 ?_
  repeat' (first | refine zka ?_ | refine zkb ?_ | (apply RKp.op; ((try simp (disch := (first | omega | exact zX | fail)) only [go_sem]); exact zL); rfl) | (apply RKp.call; (apply Blank_run <;> (exact zD)); rfl) | (apply RKp.callR; (apply hrep <;> (exact zD)); rfl; intro tr htr) | refine zkc ?_ | refine zz ?_ | refine zkd ?_ | refine zke ?_ | refine zkf ?_ | (refine RKg.split (fun h => ?_) (fun h => ?_) <;> (try rw [h]) <;> (replace h := zB h) <;> (try (exfalso; first | exact h | omega))) | refine zbt ?_ | apply V.regK | refine zvd ?_ | refine zve ?_ | (refine zvf (fun h => ?_) (fun h => ?_) <;> (replace h := zB h) <;> (try (exfalso; first | exact h | omega))) | (refine FnQ.retB (resc Tryz.results75) (by simp (disch := (first | omega | exact zX | fail)) only [cellR_op, go_sem]; rfl) ?_; (try dsimp only)))
  rfl
theorem Erase_run (hA : SlH H 3 A (cesA l)) (hl : l.length < 2 ^ 40) (a b : Int) (ha : -9223372036854775808 ≤ a ∧ a ≤ 9223372036854775807) (hb : -9223372036854775808 ≤ b ∧ b ≤ 9223372036854775807) : CallRoE (ELo oc) ys lo 145 [rowA A wr, .v (.int .i64 a), .v (.int .i64 b)] H (EraP H l wr A a b) := by
  refine WC.pureE rfl fun lo' H' hh => ?_
  have hA' := (hA.two (.inr ⟨[A, .v (.bool wr)], .inl (by simp)⟩) hh)
  have hlo := lo_two hh
  have hA2 : SlH ((H'.push (rblk A wr)).push zblk) 3 A (cesA l) := (hA'.push _).push _
  by_cases hok : eraOk l a b
  · have hok' := hok
    obtain ⟨h1, h2, h3, h4⟩ := hok'
    have h5 := h1.1
    have d1 : decide (rowG l) = true := decide_eq_true h1
    by_cases he : a = b
    · subst he
      refine zvin Tryz.func145 Tryz.ntmps145 ?_
      repeat' (first | refine zka ?_ | refine zkb ?_ | (apply RKp.op; ((try simp (disch := (first | omega | exact zX | fail)) only [len_cellX lo' hA', ix_cellX lo' hA', ld_cellX lo' hA', fa_cellX lo' hA', lf_wX lo' hA', lf_aX lo' hA', lf_rX lo' hA', sl_hiX lo' hA', sl_loX lo' hA', sl_lohiX lo' hA', d1, go_sem]); exact zL); rfl) | (apply RKp.callR; (apply May_R <;> (exact zD)); rfl; intro tr htr) | refine zkc ?_ | refine zz ?_ | refine zkd ?_ | refine zke ?_ | refine zkf ?_ | (refine RKg.split (fun h => ?_) (fun h => ?_) <;> (try rw [h]) <;> (replace h := zB h) <;> (try (exfalso; first | exact h | omega))) | refine zbt ?_ | apply V.regK | refine zva ?_ | refine zvb ?_ | refine zvc ?_ | refine zvd ?_ | refine zve ?_ | (refine zvf (fun h => ?_) (fun h => ?_) <;> (replace h := zB h) <;> (try (exfalso; first | exact h | omega))) | (refine FnQ.retB (resct Tryz.results145) (by simp (disch := (first | omega | exact zX | fail)) only [cellR_op, len_cellX lo' hA', ix_cellX lo' hA', ld_cellX lo' hA', fa_cellX lo' hA', lf_wX lo' hA', lf_aX lo' hA', lf_rX lo' hA', sl_hiX lo' hA', sl_loX lo' hA', sl_lohiX lo' hA', d1, go_sem]; rfl) ?_; (try dsimp only)))
      refine .inl ⟨hok, A, ?_, by unfold eraL; rw [if_pos rfl]; exact hA⟩
      rw [frzR_tup, List.map_cons, List.map_cons, List.map_nil, frzR1_v, frzR1_agg, List.map_cons, List.map_cons, List.map_nil, frzC_v, frzC_own hA' hlo]
      simp [eraW]
    · have hcn : ((a.toNat : Nat) : Int) = a := by omega
      have hz : (l.getD a.toNat zeroC).w = 0 → 0 < a.toNat := fun e => (((h1.2 a.toNat (by omega)).2.1 e).1)
      have hbn : (min (max (b - a) 0) 300).toNat = b.toNat - a.toNat := by omega
      have hp := put_run (ys := []) (lo := lo') (wr := wr) (H := (H'.push (rblk A wr)).push zblk) (B := .sl 3 (cesA (blanks (b.toNat - a.toNat)))) hA2 (.inl (.inl rfl)) hl a.toNat (by rw [blanks_len]; omega) (by rw [blanks_len]; omega) hz
      rw [hcn] at hp
      have hB' : SlH H' 3 (.sl 3 (cesA (putL l a.toNat (blanks (b.toNat - a.toNat))))) (cesA (putL l a.toNat (blanks (b.toNat - a.toNat)))) := .inl (.inl rfl)
      have hpl := putL_len l a.toNat (blanks (b.toNat - a.toNat))
      refine zvin Tryz.func145 Tryz.ntmps145 ?_
      repeat' (first | refine zka ?_ | refine zkb ?_ | (apply RKp.op; ((try simp (disch := (first | omega | exact zX | fail)) only [len_cellX lo' hA', ix_cellX lo' hA', ld_cellX lo' hA', fa_cellX lo' hA', lf_wX lo' hA', lf_aX lo' hA', lf_rX lo' hA', sl_hiX lo' hA', sl_loX lo' hA', sl_lohiX lo' hA', len_cellX lo' hB', ix_cellX lo' hB', ld_cellX lo' hB', fa_cellX lo' hB', lf_wX lo' hB', lf_aX lo' hB', lf_rX lo' hB', sl_hiX lo' hB', sl_loX lo' hB', sl_lohiX lo' hB', d1, hbn, hpl, go_sem]); exact zL); rfl) | (apply RKp.callR; ((first | apply May_R | apply rowBlank_run | apply hp) <;> (exact zD)); rfl; intro tr htr) | refine zkc ?_ | refine zz ?_ | refine zkd ?_ | refine zke ?_ | refine zkf ?_ | (refine RKg.split (fun h => ?_) (fun h => ?_) <;> (try rw [h]) <;> (replace h := zB h) <;> (try (exfalso; first | exact h | omega))) | refine zbt ?_ | apply V.regK | refine zva ?_ | refine zvb ?_ | refine zvc ?_ | refine zvd ?_ | refine zve ?_ | (refine zvf (fun h => ?_) (fun h => ?_) <;> (replace h := zB h) <;> (try (exfalso; first | exact h | omega))) | (refine FnQ.retB (resct Tryz.results145) (by simp (disch := (first | omega | exact zX | fail)) only [cellR_op, len_cellX lo' hA', ix_cellX lo' hA', ld_cellX lo' hA', fa_cellX lo' hA', lf_wX lo' hA', lf_aX lo' hA', lf_rX lo' hA', sl_hiX lo' hA', sl_loX lo' hA', sl_lohiX lo' hA', len_cellX lo' hB', ix_cellX lo' hB', ld_cellX lo' hB', fa_cellX lo' hB', lf_wX lo' hB', lf_aX lo' hB', lf_rX lo' hB', sl_hiX lo' hB', sl_loX lo' hB', sl_lohiX lo' hB', d1, hbn, hpl, go_sem]; rfl) ?_; (try dsimp only)))
      all_goals first
        | (refine .inl ⟨hok, .sl 3 (cesA (putL l a.toNat (blanks (b.toNat - a.toNat)))), ?_, by unfold eraL; rw [if_neg (by omega)]; exact .inl (.inl rfl)⟩
           rw [frzR_tup, List.map_cons, List.map_cons, List.map_nil, frzR1_v, frzR1_agg, List.map_cons, List.map_cons, List.map_nil, frzC_v, frzC_sl]
           first
           | (simp [eraW]; done)
           | (simp [eraW]; omega)
           | (unfold eraW; congr 5; simp_all; done)
           | (simp_all [eraW]; done)
           | trace_state)
        | trace_state
  · refine zvin Tryz.func145 Tryz.ntmps145 ?_
    repeat' (first | refine zka ?_ | refine zkb ?_ | (apply RKp.op; ((try simp (disch := (first | omega | exact zX | fail)) only [len_cellX lo' hA', ix_cellX lo' hA', ld_cellX lo' hA', fa_cellX lo' hA', lf_wX lo' hA', lf_aX lo' hA', lf_rX lo' hA', sl_hiX lo' hA', sl_loX lo' hA', sl_lohiX lo' hA', go_sem]); exact zL); rfl) | (apply RKp.callR; (apply May_R <;> (exact zD)); rfl; intro tr htr) | refine zkc ?_ | refine zz ?_ | refine zkd ?_ | refine zke ?_ | refine zkf ?_ | (refine RKg.split (fun h => ?_) (fun h => ?_) <;> (try rw [h]) <;> (replace h := zB h) <;> (try (exfalso; first | exact h | omega))) | refine zbt ?_ | apply V.regK | refine zva ?_ | refine zvb ?_ | refine zvc ?_ | refine zvd ?_ | refine zve ?_ | (refine zvf (fun h => ?_) (fun h => ?_) <;> (replace h := zB h) <;> (try (exfalso; first | exact h | omega))) | (refine FnQ.retB (resct Tryz.results145) (by simp (disch := (first | omega | exact zX | fail)) only [cellR_op, len_cellX lo' hA', ix_cellX lo' hA', ld_cellX lo' hA', fa_cellX lo' hA', lf_wX lo' hA', lf_aX lo' hA', lf_rX lo' hA', sl_hiX lo' hA', sl_loX lo' hA', sl_lohiX lo' hA', go_sem]; rfl) ?_; (try dsimp only)))
    all_goals first
      | (exfalso; apply hok; unfold eraOk; refine ⟨?_, ?_, ?_, ?_⟩ <;> first | assumption | omega)
      | (refine .inr ⟨hok, ?_⟩
         rw [frzR_tup, List.map_cons, List.map_cons, List.map_nil, frzR1_v, frzR1_agg, List.map_cons, List.map_cons, List.map_nil, frzC_v, frzC_own hA' hlo]
         done)
      | trace_state
end
end Go.Am
