
/- Cells and rows: what is compared, copied, told. -/
import Derived.Test.YtmcimfmibpfnhaaGreatRRowE
import Derived.Test.YtmcimfmibpfnhaaGreatRRowP
set_option linter.all false
set_option linter.deprecated false
namespace Go.Am
variable {oc : Orc} [OrcI oc]
open Go.Proofs
set_option maxRecDepth 8000
set_option maxHeartbeats 4000000

/-- A row's value. -/
abbrev rowA (A : AV) (wr : Bool) : AV := .agg [A, .v (.bool wr)]
/-- A sign's cells, or a pad. -/
def signI (new : List Ce) : Prop := (new.length = 1 ∧ (new.getD 0 zeroC).w = 1 ∧ mayC (new.getD 0 zeroC).r (new.getD 0 zeroC).w (new.getD 0 zeroC).a) ∨ (new.length = 2 ∧ (new.getD 0 zeroC).w = 2 ∧ mayC (new.getD 0 zeroC).r (new.getD 0 zeroC).w (new.getD 0 zeroC).a ∧ new.getD 1 zeroC = ⟨0, 0, (new.getD 0 zeroC).a⟩)
instance (new : List Ce) : Decidable (signI new) := inferInstanceAs (Decidable (_ ∨ _))
/-- Cells written over others, one by one. -/
def setN (l : List Ce) (col : Nat) (new : List Ce) : Nat → List Ce
  | 0 => l
  | i + 1 => (setN l col new i).set (col + i) (new.getD i zeroC)
theorem setN_len (l : List Ce) (col : Nat) (new : List Ce) (i : Nat) : (setN l col new i).length = l.length := by
  induction i with
  | zero => rfl
  | succ i ih => simp [setN, ih]
/-- A block of cells. -/
abbrev cblk (e : Nat) (l : List Ce) : Blk := ⟨52, 3, e, cesA l, none⟩
abbrev rblk (A : AV) (wr : Bool) : Blk := ⟨48, 2, 0, [[A, .v (.bool wr)]], none⟩
theorem take_ne {l : List Ce} {k : Nat} (h0 : 0 < k) (h : k ≤ l.length) : cesA (l.take k) ≠ [] := by
  intro e
  have := congrArg List.length e
  rw [ces_len, List.length_take, Nat.min_eq_left h] at this
  simp at this; omega
section
variable {ys : List (Nat × LRec)} {lo : Nat} {H : AHeap} {A B : AV} {l m : List Ce} {wr wr' : Bool}
theorem refTrim_run (hA : SlH H 3 A (cesA l)) (hl : l.length < 2 ^ 40) : CallRoE (ELo oc) ys lo 39 [A] H fun x => Sl 3 x (cesA (trimL l)) := by
  refine WC.pureE rfl fun lo' H' hh => ?_
  have hA' := hA.two (.inr ⟨[], .inr (by simp)⟩) hh
  have hlo := lo_two hh
  refine zvin Tryz.func39 Tryz.ntmps39 ?_
  repeat' (first | refine zka ?_ | refine zkb ?_ | (apply RKp.op; ((try simp (disch := (first | omega | exact zX | fail)) only [len_cell _ hA', go_sem, Nat.reduceDiv, Nat.reduceMod, Nat.reduceAdd, Nat.reduceSub, Nat.reduceEqDiff, Nat.reduceLeDiff, Nat.reduceLT, Nat.reduceMul, reduceIte, Nat.reducePow, Int.reduceEq]); exact zL); rfl) | refine zkc ?_ | apply RKg.tt | apply RKg.ff | refine zkd ?_ | refine zke ?_ | refine zkf ?_ | (refine RKg.split (fun h => ?_) (fun h => ?_) <;> (try rw [h]) <;> (replace h := zB h) <;> (try (exfalso; first | exact h | omega))) | apply RK.nil | apply V.sq | apply V.bl | apply V.sc | apply V.skip | apply V.label | apply V.ret | apply V.exit | apply SeqQ.normal | apply SeqQ.ret | apply SeqQ.exit | apply BlockQ.normal | apply BlockQ.ret | apply BlockQ.here | refine zbt ?_ | apply LoopS.ret | apply LoopS.exit | apply LoopF.ret | apply LoopF.exit | apply V.regK | refine zva ?_ | refine zvb ?_ | refine zvc ?_ | refine zvd ?_ | refine zve ?_ | (refine zvf (fun h => ?_) (fun h => ?_) <;> (replace h := zB h) <;> (try (exfalso; first | exact h | omega))) | (refine zfc Tryz.results39 ?_; (try dsimp only)))
  apply V.lpF [3, 6, 7, 8, 9, 10, 11, 12, 13, 14, 15, 16, 17, 18] (fun k xs => ∃ (i : Nat) (g : _), xs = .v (.int .i64 i) :: g ∧ k = i ∧ i ≤ l.length ∧ usedN l i = usedN l l.length) l.length
  focus (intro xs; simp only [putMany, set2, Nat.reduceAdd, Nat.reduceDiv, Nat.reduceMod, nth_zero, nth_succ, List.set_cons_zero, List.set_cons_succ]; rfl)
  focus (first | rfl | simp only [readMany, nth_zero, nth_succ, Nat.reduceDiv, Nat.reduceMod])
  · exact ⟨l.length, _, rfl, rfl, Nat.le_refl _, rfl⟩
  · rintro k xs ⟨i, g, rfl, rfl, hi, hst⟩
    have e2 : ((k : Int) - 1).toNat = k - 1 := by omega
    have hc := cut_hi hA' k hi
    have htr : usedN l k = k → trimL l = l.take k := fun hu => by rw [trimL, ← hst, hu]
    rcases Nat.eq_zero_or_pos k with h0 | h0
    · subst h0
      have happ := append_new0 (ELo oc) lo' (H := H') (t := 41) (s := .v (.slice none 0 0)) (.inr rfl) app_cell hc
      repeat' (first | refine zka ?_ | refine zkb ?_ | (apply RKp.op; ((try simp (disch := (first | omega | exact zX | fail)) only [ix_cell _ hA', ld_cell _ hA', e2, sl_hi _ hA', Int.toNat_natCast, eqC0, happ, go_sem, Nat.reduceDiv, Nat.reduceMod, Nat.reduceAdd, Nat.reduceSub, Nat.reduceEqDiff, Nat.reduceLeDiff, Nat.reduceLT, Nat.reduceMul, reduceIte, Nat.reducePow, Int.reduceEq]); exact zL); rfl) | (apply RKp.call; (apply refBlank_run <;> (exact zD)); rfl) | refine zkc ?_ | apply RKg.tt | apply RKg.ff | refine zkd ?_ | refine zke ?_ | refine zkf ?_ | (refine RKg.split (fun h => ?_) (fun h => ?_) <;> (try rw [h]) <;> (replace h := zB h) <;> (try (exfalso; first | exact h | omega))) | apply RK.nil | apply V.sq | apply V.bl | apply V.sc | apply V.skip | apply V.label | apply V.ret | apply V.exit | apply SeqQ.normal | apply SeqQ.ret | apply SeqQ.exit | apply BlockQ.normal | apply BlockQ.ret | apply BlockQ.here | refine zbt ?_ | apply LoopS.ret | apply LoopS.exit | apply LoopF.ret | apply LoopF.exit | apply V.regK | refine zva ?_ | refine zvb ?_ | refine zvc ?_ | refine zvd ?_ | refine zve ?_ | (refine zvf (fun h => ?_) (fun h => ?_) <;> (replace h := zB h) <;> (try (exfalso; first | exact h | omega))) | (refine zfc Tryz.results39 ?_; (try dsimp only)))
      rw [frzR_v, htr rfl]
      exact .inr ⟨rfl, .inr rfl⟩
    · have happ := append_new (ELo oc) lo' (H := H') (t := 41) (s := .v (.slice none 0 0)) (.inr rfl) app_cell hc (take_ne h0 hi) (by simp only [ces_len, List.length_take]; unfold roomMax; omega)
      rw [ces_len, List.length_take, Nat.min_eq_left hi] at happ
      repeat' (first | refine zka ?_ | refine zkb ?_ | (apply RKp.op; ((try simp (disch := (first | omega | exact zX | fail)) only [ix_cell _ hA', ld_cell _ hA', e2, sl_hi _ hA', Int.toNat_natCast, eqC0, happ, go_sem, Nat.reduceDiv, Nat.reduceMod, Nat.reduceAdd, Nat.reduceSub, Nat.reduceEqDiff, Nat.reduceLeDiff, Nat.reduceLT, Nat.reduceMul, reduceIte, Nat.reducePow, Int.reduceEq]); exact zL); rfl) | (apply RKp.call; (apply refBlank_run <;> (exact zD)); rfl) | refine zkc ?_ | apply RKg.tt | apply RKg.ff | refine zkd ?_ | refine zke ?_ | refine zkf ?_ | (refine RKg.split (fun h => ?_) (fun h => ?_) <;> (try rw [h]) <;> (replace h := zB h) <;> (try (exfalso; first | exact h | omega))) | apply RK.nil | apply V.sq | apply V.bl | apply V.sc | apply V.skip | apply V.label | apply V.ret | apply V.exit | apply SeqQ.normal | apply SeqQ.ret | apply SeqQ.exit | apply BlockQ.normal | apply BlockQ.ret | apply BlockQ.here | refine zbt ?_ | apply LoopS.ret | apply LoopS.exit | apply LoopF.ret | apply LoopF.exit | apply V.regK | refine zva ?_ | refine zvb ?_ | refine zvc ?_ | refine zvd ?_ | refine zve ?_ | (refine zvf (fun h => ?_) (fun h => ?_) <;> (replace h := zB h) <;> (try (exfalso; first | exact h | omega))) | (refine zfc Tryz.results39 ?_; (try dsimp only)))
      · refine LoopF.again (k - 1) (by rfl) (by omega) ⟨k - 1, _, by rw [show ((k - 1 : Nat) : Int) = (k : Int) - 1 by omega]; rfl, rfl, by omega, ?_⟩
        rw [← hst]
        obtain ⟨j, rfl⟩ : ∃ j, k = j + 1 := ⟨k - 1, by omega⟩
        simp only [usedN, Nat.add_sub_cancel] at h ⊢
        rw [if_pos (Ce.eqv.2 h)]
      · have hu : usedN l k = k := by
          have hk : ¬ l.getD (k - 1) zeroC = blankC := fun e => h (Ce.eqv.1 e)
          obtain ⟨j, rfl⟩ : ∃ j, k = j + 1 := ⟨k - 1, by omega⟩
          simp only [usedN]
          exact if_neg hk
        have := os_frz (H := H'.push (cblk 0 (l.take k))) (lo := lo') (n := H'.next) (e := 0) (l := l.take k) (by omega) (by rw [get_push, if_pos rfl])
        rw [List.length_take, Nat.min_eq_left hi] at this
        rw [this, htr hu]
        exact .inl rfl
end
end Go.Am
