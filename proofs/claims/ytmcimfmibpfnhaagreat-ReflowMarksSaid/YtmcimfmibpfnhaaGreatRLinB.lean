
/- Lines: signs, rows that may be, lines that may be. -/
import Derived.Test.YtmcimfmibpfnhaaGreatRLinA
import Derived.Test.YtmcimfmibpfnhaaGreatRRowJ
set_option linter.all false
set_option linter.deprecated false
namespace Go.Am
variable {oc : Orc} [OrcI oc]
open Go.Proofs
set_option maxRecDepth 8000
set_option maxHeartbeats 4000000

/-- Cells, frozen; nil if there are none. -/
def slA (l : List Ce) : AV := if l = [] then nilA else .sl 3 (cesA l)
theorem slA_ne {l : List Ce} (h : l ≠ []) : slA l = .sl 3 (cesA l) := if_neg h
theorem slA_Sl (l : List Ce) : Sl 3 (slA l) (cesA l) := by
  unfold slA
  split
  · rename_i h; subst h; exact .inr ⟨rfl, .inr rfl⟩
  · exact .inl rfl
theorem own_slA {H : AHeap} {lo base : Nat} {x : AV} {l : List Ce} (ho : OwS H base 52 3 x (cesA l)) (h0 : l = [] → x = nilA) (hb : lo ≤ base) : frzR H lo x = slA l := by
  rcases ho with ⟨h1, _⟩ | ⟨n, e, rfl, h1, h2, h3⟩
  · have := ces_nil.1 h1
    rw [h0 this, this]; rfl
  · by_cases hl : l = []
    · have := h0 hl; cases this
    · rw [slA_ne hl, ces_len]
      exact os_frz (by omega) h3

/-- A row that may be; else one without cells. -/
def sndA (A : AV) (l : List Ce) : AV := if rowG l then A else nilA
theorem sndA_Sl {A : AV} {r : Rw} (h : Sl 3 A (cesA r.1)) : Sl 3 (sndA A r.1) (cesA (sndR r).1) := by
  unfold sndA sndR
  split
  · exact h
  · exact .inr ⟨rfl, .inr rfl⟩
theorem sndR_len {r : Rw} : (sndR r).1.length ≤ 300 := by
  unfold sndR
  split
  · rename_i h; exact h.1
  · exact Nat.zero_le _
theorem sndR_2 (l : List Ce) (wr : Bool) : (sndR (l, wr)).2 = (decide (rowG l) && wr) := by
  unfold sndR
  split
  · rename_i h; rw [decide_eq_true h]; rfl
  · rename_i h; rw [decide_eq_false h]; rfl
section
variable {ys : List (Nat × LRec)} {lo : Nat} {H : AHeap} {A B : AV} {l m : List Ce} {wr wr' : Bool}
theorem signs_run (hA : SlH H 3 A (cesA l)) (hl : l.length < 2 ^ 40) : CallRo (ELo oc) ys lo 71 [A] H (slA (sigL l)) := by
  refine WC.pureR rfl fun lo' H' hh => ?_
  have hA' := hA.two (.inr ⟨[], .inr (by simp)⟩) hh
  have hlo := lo_two hh
  refine zvin Tryz.func71 Tryz.ntmps71 ?_
  repeat' (first | refine zka ?_ | refine zkb ?_ | (apply RKp.op; ((try simp (disch := (first | omega | exact zX | fail)) only [len_cellX lo' hA', ix_cellX lo' hA', ld_cellX lo' hA', fa_cellX lo' hA', lf_wX lo' hA', lf_aX lo' hA', lf_rX lo' hA', sl_hiX lo' hA', sl_loX lo' hA', sl_lohiX lo' hA', go_sem, Nat.reduceDiv, Nat.reduceMod, Nat.reduceAdd, Nat.reduceSub, Nat.reduceEqDiff, Nat.reduceLeDiff, Nat.reduceLT, Nat.reduceMul, reduceIte, Nat.reducePow, Int.reduceEq]); exact zL); rfl) | refine zkc ?_ | apply RKg.tt | apply RKg.ff | refine zkd ?_ | refine zke ?_ | refine zkf ?_ | (refine RKg.split (fun h => ?_) (fun h => ?_) <;> (try rw [h]) <;> (replace h := zB h) <;> (try (exfalso; first | exact h | omega))) | apply RK.nil | apply V.sq | apply V.bl | apply V.sc | apply V.skip | apply V.label | apply V.ret | apply V.exit | apply SeqQ.normal | apply SeqQ.ret | apply SeqQ.exit | apply BlockQ.normal | apply BlockQ.ret | apply BlockQ.here | refine zbt ?_ | apply LoopS.ret | apply LoopS.exit | apply LoopF.ret | apply LoopF.exit | apply V.regK | refine zvd ?_ | refine zve ?_ | (refine zvf (fun h => ?_) (fun h => ?_) <;> (replace h := zB h) <;> (try (exfalso; first | exact h | omega))) | (refine zfc Tryz.results71 ?_; (try dsimp only)))
  apply V.lpS [8, 3, 5, 9, 10, 11, 12, 13, 14, 15, 16, 17, 18, 19, 20, 21, 22, 23, 24] (fun k xs H2 => ∃ (i : Nat) (x : AV) (g : _), xs = .v (.int .i64 i) :: x :: g ∧ k = l.length - i ∧ i ≤ l.length ∧ Ext H' H2 ∧ OwS H2 H'.next 52 3 x (cesA (sigL (l.take i))) ∧ (sigL (l.take i) = [] → x = nilA)) l.length
  focus (intro xs; simp only [putMany, set2, Nat.reduceAdd, Nat.reduceDiv, Nat.reduceMod, nth_zero, nth_succ, List.set_cons_zero, List.set_cons_succ]; rfl)
  focus (first | rfl | simp only [readMany, nth_zero, nth_succ, Nat.reduceDiv, Nat.reduceMod])
  · exact ⟨0, _, _, rfl, rfl, Nat.zero_le _, Ext.refl _, OwS.nil _ _ _ _, fun _ => rfl⟩
  · rintro k xs H2 ⟨i, x, g, rfl, rfl, hi, hx, ho, h0⟩
    have hn2 := hx.next
    by_cases hlt : i < l.length
    · have hs := sigL_take hlt
      have hsl := sigL_len (l.take i)
      rw [List.length_take] at hsl
      by_cases hsig : isSig (l.getD i zeroC) = true
      · rw [if_pos hsig] at hs
        obtain ⟨s1, s2⟩ := of_decide_eq_true hsig
        have s3 : ¬ ((l.getD i zeroC).r = 0 ∧ (l.getD i zeroC).w = 1 ∧ (l.getD i zeroC).a = 0) := fun h => s2 (Ce.eqv.2 h)
        obtain ⟨x', H3, tr3, happ, ho', hnx, hfr⟩ := (ho.push ⟨52, 3, 0, [ceA (l.getD i zeroC)], none⟩).add1 (ELo oc) lo' app_cell (by omega) (by (first | omega | (simp only [next_push, next_set, next_empty]; done) | (simp only [next_push, next_set, next_empty]; omega))) (by rw [ces_len]; unfold roomMax; omega) (ceA (l.getD i zeroC))
        rw [next_push] at happ hnx
        repeat' (first | refine zka ?_ | refine zkb ?_ | (apply RKp.op; ((try simp (disch := (first | omega | exact zX | fail)) only [len_cellX lo' hA', ix_cellX lo' hA', ld_cellX lo' hA', fa_cellX lo' hA', lf_wX lo' hA', lf_aX lo' hA', lf_rX lo' hA', sl_hiX lo' hA', sl_loX lo' hA', sl_lohiX lo' hA', happ, Int.toNat_natCast, go_sem, Nat.reduceDiv, Nat.reduceMod, Nat.reduceAdd, Nat.reduceSub, Nat.reduceEqDiff, Nat.reduceLeDiff, Nat.reduceLT, Nat.reduceMul, reduceIte, Nat.reducePow, Int.reduceEq]); exact zL); rfl) | (apply RKp.call; (apply IsPad_run <;> (exact zD)); rfl) | refine zkc ?_ | apply RKg.tt | apply RKg.ff | refine zkd ?_ | refine zke ?_ | refine zkf ?_ | (refine RKg.split (fun h => ?_) (fun h => ?_) <;> (try rw [h]) <;> (replace h := zB h) <;> (try (exfalso; first | exact h | omega))) | apply RK.nil | apply V.sq | apply V.bl | apply V.sc | apply V.skip | apply V.label | apply V.ret | apply V.exit | apply SeqQ.normal | apply SeqQ.ret | apply SeqQ.exit | apply BlockQ.normal | apply BlockQ.ret | apply BlockQ.here | refine zbt ?_ | apply LoopS.ret | apply LoopS.exit | apply LoopF.ret | apply LoopF.exit | apply V.regK | refine zvd ?_ | refine zve ?_ | (refine zvf (fun h => ?_) (fun h => ?_) <;> (replace h := zB h) <;> (try (exfalso; first | exact h | omega))) | (refine zfc Tryz.results71 ?_; (try dsimp only)))
        all_goals first
          | (exfalso; omega)
          | (refine LoopS.again (l.length - (i + 1)) (by rfl) (by omega) ⟨i + 1, x', _, rfl, rfl, by omega, ⟨by omega, fun k hk => by rw [hfr k hk, get_push, if_neg (by omega), hx.get k hk]⟩, ?_, fun z => absurd z (by rw [hs]; simp)⟩
             rw [hs, cesA, List.map_append]
             exact ho')
          | trace_state
      · rw [if_neg hsig, List.append_nil] at hs
        have s1 : (l.getD i zeroC).w = 0 ∨ ((l.getD i zeroC).r = 0 ∧ (l.getD i zeroC).w = 1 ∧ (l.getD i zeroC).a = 0) := by
          rcases Decidable.em ((l.getD i zeroC).w = 0) with h | h
          · exact .inl h
          · exact .inr (Ce.eqv.1 (Classical.byContradiction fun z => hsig (decide_eq_true ⟨h, z⟩)))
        repeat' (first | refine zka ?_ | refine zkb ?_ | (apply RKp.op; ((try simp (disch := (first | omega | exact zX | fail)) only [len_cellX lo' hA', ix_cellX lo' hA', ld_cellX lo' hA', fa_cellX lo' hA', lf_wX lo' hA', lf_aX lo' hA', lf_rX lo' hA', sl_hiX lo' hA', sl_loX lo' hA', sl_lohiX lo' hA', Int.toNat_natCast, go_sem, Nat.reduceDiv, Nat.reduceMod, Nat.reduceAdd, Nat.reduceSub, Nat.reduceEqDiff, Nat.reduceLeDiff, Nat.reduceLT, Nat.reduceMul, reduceIte, Nat.reducePow, Int.reduceEq]); exact zL); rfl) | (apply RKp.call; (apply IsPad_run <;> (exact zD)); rfl) | refine zkc ?_ | apply RKg.tt | apply RKg.ff | refine zkd ?_ | refine zke ?_ | refine zkf ?_ | (refine RKg.split (fun h => ?_) (fun h => ?_) <;> (try rw [h]) <;> (replace h := zB h) <;> (try (exfalso; first | exact h | omega))) | apply RK.nil | apply V.sq | apply V.bl | apply V.sc | apply V.skip | apply V.label | apply V.ret | apply V.exit | apply SeqQ.normal | apply SeqQ.ret | apply SeqQ.exit | apply BlockQ.normal | apply BlockQ.ret | apply BlockQ.here | refine zbt ?_ | apply LoopS.ret | apply LoopS.exit | apply LoopF.ret | apply LoopF.exit | apply V.regK | refine zvd ?_ | refine zve ?_ | (refine zvf (fun h => ?_) (fun h => ?_) <;> (replace h := zB h) <;> (try (exfalso; first | exact h | omega))) | (refine zfc Tryz.results71 ?_; (try dsimp only)))
        all_goals first
          | (exfalso; omega)
          | exact LoopS.again (l.length - (i + 1)) (by rfl) (by omega) ⟨i + 1, x, _, rfl, rfl, by omega, hx.push _, by rw [hs]; exact ho.push _, by rw [hs]; exact h0⟩
          | trace_state
    · have e : i = l.length := by omega
      subst e
      rw [List.take_length] at ho h0
      repeat' (first | refine zka ?_ | refine zkb ?_ | (apply RKp.op; ((try simp (disch := (first | omega | exact zX | fail)) only [len_cellX lo' hA', ix_cellX lo' hA', ld_cellX lo' hA', fa_cellX lo' hA', lf_wX lo' hA', lf_aX lo' hA', lf_rX lo' hA', sl_hiX lo' hA', sl_loX lo' hA', sl_lohiX lo' hA', go_sem, Nat.reduceDiv, Nat.reduceMod, Nat.reduceAdd, Nat.reduceSub, Nat.reduceEqDiff, Nat.reduceLeDiff, Nat.reduceLT, Nat.reduceMul, reduceIte, Nat.reducePow, Int.reduceEq]); exact zL); rfl) | refine zkc ?_ | apply RKg.tt | apply RKg.ff | refine zkd ?_ | refine zke ?_ | refine zkf ?_ | (refine RKg.split (fun h => ?_) (fun h => ?_) <;> (try rw [h]) <;> (replace h := zB h) <;> (try (exfalso; first | exact h | omega))) | apply RK.nil | apply V.sq | apply V.bl | apply V.sc | apply V.skip | apply V.label | apply V.ret | apply V.exit | apply SeqQ.normal | apply SeqQ.ret | apply SeqQ.exit | apply BlockQ.normal | apply BlockQ.ret | apply BlockQ.here | refine zbt ?_ | apply LoopS.ret | apply LoopS.exit | apply LoopF.ret | apply LoopF.exit | apply V.regK | refine zvd ?_ | refine zve ?_ | (refine zvf (fun h => ?_) (fun h => ?_) <;> (replace h := zB h) <;> (try (exfalso; first | exact h | omega))) | (refine zfc Tryz.results71 ?_; (try dsimp only)))
      exact own_slA ho h0 (by omega)
theorem sound_run (hA : Sl 3 A (cesA l)) (hl : l.length < 2 ^ 40) : CallRo (ELo oc) ys lo 70 [rowA A wr] H (rowA (sndA A l) (decide (rowG l) && wr)) := by
  refine WC.pureR rfl fun lo' H' hh => ?_
  have hlo := lo_two hh
  have hM := fun ys G => May_R (ys := ys) (lo := lo') (H := G) (wr := wr) (.inl hA) hl
  unfold sndA
  by_cases hG : rowG l
  · simp only [decide_eq_true hG] at hM
    rw [if_pos hG, decide_eq_true hG]
    refine zvin Tryz.func70 Tryz.ntmps70 ?_
    repeat' (first | refine zka ?_ | refine zkb ?_ | (apply RKp.op; ((try simp (disch := (first | omega | exact zX | fail)) only [go_sem, Nat.reduceDiv, Nat.reduceMod, Nat.reduceAdd, Nat.reduceSub, Nat.reduceEqDiff, Nat.reduceLeDiff, Nat.reduceLT, Nat.reduceMul, reduceIte, Nat.reducePow, Int.reduceEq]); exact zL); rfl) | (apply RKp.callR; (apply hM <;> (exact zD)); rfl; intro tr htr) | refine zkc ?_ | apply RKg.tt | apply RKg.ff | refine zkd ?_ | refine zke ?_ | refine zkf ?_ | (refine RKg.split (fun h => ?_) (fun h => ?_) <;> (try rw [h]) <;> (replace h := zB h) <;> (try (exfalso; first | exact h | omega))) | apply RK.nil | apply V.sq | apply V.bl | apply V.sc | apply V.skip | apply V.label | apply V.ret | apply V.exit | apply SeqQ.normal | apply SeqQ.ret | apply SeqQ.exit | apply BlockQ.normal | apply BlockQ.ret | apply BlockQ.here | refine zbt ?_ | apply LoopS.ret | apply LoopS.exit | apply LoopF.ret | apply LoopF.exit | apply V.regK | refine zvd ?_ | refine zve ?_ | (refine zvf (fun h => ?_) (fun h => ?_) <;> (replace h := zB h) <;> (try (exfalso; first | exact h | omega))) | (refine FnQ.retB (resc Tryz.results70) (by simp (disch := (first | omega | exact zX | fail)) only [cellR_op, go_sem, Nat.reduceDiv, Nat.reduceMod, Nat.reduceAdd, Nat.reduceSub, Nat.reduceEqDiff, Nat.reduceLeDiff, Nat.reduceLT, Nat.reduceMul, reduceIte, Nat.reducePow, Int.reduceEq]; rfl) ?_; (try dsimp only)))
    rw [frzR_agg, List.map_cons, List.map_cons, List.map_nil, frzC_v, frzC_flat _ _ (flat_Sl hA)]; rfl
  · simp only [decide_eq_false hG] at hM
    rw [if_neg hG, decide_eq_false hG]
    refine zvin Tryz.func70 Tryz.ntmps70 ?_
    repeat' (first | refine zka ?_ | refine zkb ?_ | (apply RKp.op; ((try simp (disch := (first | omega | exact zX | fail)) only [go_sem, Nat.reduceDiv, Nat.reduceMod, Nat.reduceAdd, Nat.reduceSub, Nat.reduceEqDiff, Nat.reduceLeDiff, Nat.reduceLT, Nat.reduceMul, reduceIte, Nat.reducePow, Int.reduceEq]); exact zL); rfl) | (apply RKp.callR; (apply hM <;> (exact zD)); rfl; intro tr htr) | refine zkc ?_ | apply RKg.tt | apply RKg.ff | refine zkd ?_ | refine zke ?_ | refine zkf ?_ | (refine RKg.split (fun h => ?_) (fun h => ?_) <;> (try rw [h]) <;> (replace h := zB h) <;> (try (exfalso; first | exact h | omega))) | apply RK.nil | apply V.sq | apply V.bl | apply V.sc | apply V.skip | apply V.label | apply V.ret | apply V.exit | apply SeqQ.normal | apply SeqQ.ret | apply SeqQ.exit | apply BlockQ.normal | apply BlockQ.ret | apply BlockQ.here | refine zbt ?_ | apply LoopS.ret | apply LoopS.exit | apply LoopF.ret | apply LoopF.exit | apply V.regK | refine zvd ?_ | refine zve ?_ | (refine zvf (fun h => ?_) (fun h => ?_) <;> (replace h := zB h) <;> (try (exfalso; first | exact h | omega))) | (refine FnQ.retB (resc Tryz.results70) (by simp (disch := (first | omega | exact zX | fail)) only [cellR_op, go_sem, Nat.reduceDiv, Nat.reduceMod, Nat.reduceAdd, Nat.reduceSub, Nat.reduceEqDiff, Nat.reduceLeDiff, Nat.reduceLT, Nat.reduceMul, reduceIte, Nat.reducePow, Int.reduceEq]; rfl) ?_; (try dsimp only)))
    rfl
theorem refSigns_run (hA : SlH H 3 A (cesA l)) (hl : l.length < 2 ^ 40) (h32 : R32 l) : CallRo (ELo oc) ys lo 68 [rowA A wr] H (slA (sigR (l, wr))) := by
  refine WC.pureR rfl fun lo' H' hh => ?_
  have hA' := hA.two (.inr ⟨[A, .v (.bool wr)], .inl (by simp)⟩) hh
  have hlo := lo_two hh
  by_cases hG : rowG l
  · have hsr : sigR (l, wr) = sigL l := by rw [sigR, sndR_ok hG]
    rw [hsr]
    have hl3 := hG.1
    refine zvin Tryz.func68 Tryz.ntmps68 ?_
    repeat' (first | refine zka ?_ | refine zkb ?_ | (apply RKp.op; ((try simp (disch := (first | omega | exact zX | fail)) only [go_sem, Nat.reduceDiv, Nat.reduceMod, Nat.reduceAdd, Nat.reduceSub, Nat.reduceEqDiff, Nat.reduceLeDiff, Nat.reduceLT, Nat.reduceMul, reduceIte, Nat.reducePow, Int.reduceEq]); exact zL); rfl) | refine zkc ?_ | apply RKg.tt | apply RKg.ff | refine zkd ?_ | refine zke ?_ | refine zkf ?_ | (refine RKg.split (fun h => ?_) (fun h => ?_) <;> (try rw [h]) <;> (replace h := zB h) <;> (try (exfalso; first | exact h | omega))) | apply RK.nil | apply V.sq | apply V.bl | apply V.sc | apply V.skip | apply V.label | apply V.ret | apply V.exit | apply SeqQ.normal | apply SeqQ.ret | apply SeqQ.exit | apply BlockQ.normal | apply BlockQ.ret | apply BlockQ.here | refine zbt ?_ | apply LoopS.ret | apply LoopS.exit | apply LoopF.ret | apply LoopF.exit | apply V.regK | refine zva ?_ | refine zvb ?_ | refine zvc ?_ | refine zvd ?_ | refine zve ?_ | (refine zvf (fun h => ?_) (fun h => ?_) <;> (replace h := zB h) <;> (try (exfalso; first | exact h | omega))) | (refine zfc Tryz.results68 ?_; (try dsimp only)))
    apply V.lpS [4, 3, 5, 6, 7, 8, 9, 10, 11, 12, 13, 14, 15, 16, 17, 18, 19, 20, 21, 22, 23, 24, 25, 26, 27, 28, 29, 30, 31, 32, 33] (fun k xs H2 => ∃ (i : Nat) (x : AV) (g : _), xs = .v (.int .i64 i) :: x :: g ∧ k = l.length - i ∧ i ≤ l.length ∧ Ext H' H2 ∧ H'.next + 1 ≤ H2.next ∧ H2.get H'.next = some (rblk A wr) ∧ OwS H2 (H'.next + 1) 52 3 x (cesA (sigL (l.take i))) ∧ (sigL (l.take i) = [] → x = nilA)) l.length
    focus (intro xs; simp only [putMany, set2, Nat.reduceAdd, Nat.reduceDiv, Nat.reduceMod, nth_zero, nth_succ, List.set_cons_zero, List.set_cons_succ]; rfl)
    focus (first | rfl | simp only [readMany, nth_zero, nth_succ, Nat.reduceDiv, Nat.reduceMod])
    · exact ⟨0, _, _, rfl, rfl, Nat.zero_le _, (Ext.refl _).push _, by (first | omega | (simp only [next_push, next_set, next_empty]; done) | (simp only [next_push, next_set, next_empty]; omega)), by simp (disch := (first | omega | exact zX | fail)) only [get_set, get_push, next_push, next_set, if_pos', if_neg', if_true, if_false, reduceIte], OwS.nil _ _ _ _, fun _ => rfl⟩
    · rintro k xs H2 ⟨i, x, g, rfl, rfl, hi, hx, hn2, g0, ho, h0⟩
      have hR := fun ys G (x : Ext H2 G) => Row_R (ys := ys) (lo := lo') (H := G) (wr := wr) ((hA'.ext hx).ext x) hl h32
      simp only [decide_eq_true hG] at hR
      by_cases hlt : i < l.length
      · have hs := sigL_take hlt
        have hm := (hG.2 i hlt).1
        have hsl := sigL_len (l.take i)
        rw [List.length_take] at hsl
        have hw : 0 ≤ (l.getD i zeroC).w := by
          rcases hm.2 with h | h | h <;> omega
        by_cases hsig : isSig (l.getD i zeroC) = true
        · rw [if_pos hsig] at hs
          obtain ⟨s1, s2⟩ := of_decide_eq_true hsig
          have s3 : ¬ ((l.getD i zeroC).r = 0 ∧ (l.getD i zeroC).w = 1 ∧ (l.getD i zeroC).a = 0) := fun h => s2 (Ce.eqv.2 h)
          obtain ⟨x', H3, tr3, happ, ho', hnx, hfr⟩ := (ho.push ⟨52, 3, 0, [ceA (l.getD i zeroC)], none⟩).add1 (ELo oc) lo' app_cell (by omega) (by (first | omega | (simp only [next_push, next_set, next_empty]; done) | (simp only [next_push, next_set, next_empty]; omega))) (by rw [ces_len]; unfold roomMax; omega) (ceA (l.getD i zeroC))
          rw [next_push] at happ hnx
          have k0 : H3.get H'.next = some (rblk A wr) := by rw [hfr _ (by omega), get_push, if_neg (by omega)]; exact g0
          repeat' (first | refine zka ?_ | refine zkb ?_ | (apply RKp.op; ((try simp (disch := (first | omega | exact zX | fail)) only [len_cellX lo' hA', ix_cellX lo' hA', ld_cellX lo' hA', fa_cellX lo' hA', lf_wX lo' hA', lf_aX lo' hA', lf_rX lo' hA', sl_hiX lo' hA', sl_loX lo' hA', sl_lohiX lo' hA', g0, k0, happ, Int.toNat_natCast, eqC1, go_sem, Nat.reduceDiv, Nat.reduceMod, Nat.reduceAdd, Nat.reduceSub, Nat.reduceEqDiff, Nat.reduceLeDiff, Nat.reduceLT, Nat.reduceMul, reduceIte, Nat.reducePow, Int.reduceEq]); exact zL); rfl) | (apply RKp.call; (apply refPad_run <;> (exact zD)); rfl) | (apply RKp.callR; (apply hR <;> (exact zD)); rfl; intro tr htr) | refine zkc ?_ | apply RKg.tt | apply RKg.ff | refine zkd ?_ | refine zke ?_ | refine zkf ?_ | (refine RKg.split (fun h => ?_) (fun h => ?_) <;> (try rw [h]) <;> (replace h := zB h) <;> (try (exfalso; first | exact h | omega))) | apply RK.nil | apply V.sq | apply V.bl | apply V.sc | apply V.skip | apply V.label | apply V.ret | apply V.exit | apply SeqQ.normal | apply SeqQ.ret | apply SeqQ.exit | apply BlockQ.normal | apply BlockQ.ret | apply BlockQ.here | refine zbt ?_ | apply LoopS.ret | apply LoopS.exit | apply LoopF.ret | apply LoopF.exit | apply V.regK | refine zva ?_ | refine zvb ?_ | refine zvc ?_ | refine zvd ?_ | refine zve ?_ | (refine zvf (fun h => ?_) (fun h => ?_) <;> (replace h := zB h) <;> (try (exfalso; first | exact h | omega))) | (refine zfc Tryz.results68 ?_; (try dsimp only)))
          all_goals first
            | (exfalso; omega)
            | (refine LoopS.again (l.length - (i + 1)) (by rfl) (by omega) ⟨i + 1, x', _, rfl, rfl, by omega, ⟨by omega, fun k hk => by rw [hfr k (by omega), get_push, if_neg (by omega), hx.get k hk]⟩, by omega, k0, ?_, fun z => absurd z (by rw [hs]; simp)⟩
               rw [hs, cesA, List.map_append]
               exact ho')
            | trace_state
        · rw [if_neg hsig, List.append_nil] at hs
          have s1 : (l.getD i zeroC).w = 0 ∨ ((l.getD i zeroC).r = 0 ∧ (l.getD i zeroC).w = 1 ∧ (l.getD i zeroC).a = 0) := by
            rcases Decidable.em ((l.getD i zeroC).w = 0) with h | h
            · exact .inl h
            · exact .inr (Ce.eqv.1 (Classical.byContradiction fun z => hsig (decide_eq_true ⟨h, z⟩)))
          repeat' (first | refine zka ?_ | refine zkb ?_ | (apply RKp.op; ((try simp (disch := (first | omega | exact zX | fail)) only [len_cellX lo' hA', ix_cellX lo' hA', ld_cellX lo' hA', fa_cellX lo' hA', lf_wX lo' hA', lf_aX lo' hA', lf_rX lo' hA', sl_hiX lo' hA', sl_loX lo' hA', sl_lohiX lo' hA', g0, Int.toNat_natCast, eqC1, go_sem, Nat.reduceDiv, Nat.reduceMod, Nat.reduceAdd, Nat.reduceSub, Nat.reduceEqDiff, Nat.reduceLeDiff, Nat.reduceLT, Nat.reduceMul, reduceIte, Nat.reducePow, Int.reduceEq]); exact zL); rfl) | (apply RKp.call; (apply refPad_run <;> (exact zD)); rfl) | (apply RKp.callR; (apply hR <;> (exact zD)); rfl; intro tr htr) | refine zkc ?_ | apply RKg.tt | apply RKg.ff | refine zkd ?_ | refine zke ?_ | refine zkf ?_ | (refine RKg.split (fun h => ?_) (fun h => ?_) <;> (try rw [h]) <;> (replace h := zB h) <;> (try (exfalso; first | exact h | omega))) | apply RK.nil | apply V.sq | apply V.bl | apply V.sc | apply V.skip | apply V.label | apply V.ret | apply V.exit | apply SeqQ.normal | apply SeqQ.ret | apply SeqQ.exit | apply BlockQ.normal | apply BlockQ.ret | apply BlockQ.here | refine zbt ?_ | apply LoopS.ret | apply LoopS.exit | apply LoopF.ret | apply LoopF.exit | apply V.regK | refine zva ?_ | refine zvb ?_ | refine zvc ?_ | refine zvd ?_ | refine zve ?_ | (refine zvf (fun h => ?_) (fun h => ?_) <;> (replace h := zB h) <;> (try (exfalso; first | exact h | omega))) | (refine zfc Tryz.results68 ?_; (try dsimp only)))
          all_goals first
            | (exfalso; omega)
            | exact LoopS.again (l.length - (i + 1)) (by rfl) (by omega) ⟨i + 1, x, _, rfl, rfl, by omega, hx.push _, by (first | omega | (simp only [next_push, next_set, next_empty]; done) | (simp only [next_push, next_set, next_empty]; omega)), by simp (disch := (first | omega | exact zX | fail)) only [get_set, get_push, next_push, next_set, if_pos', if_neg', if_true, if_false, reduceIte]; exact g0, by rw [hs]; exact ho.push _, by rw [hs]; exact h0⟩
            | trace_state
      · have e : i = l.length := by omega
        subst e
        rw [List.take_length] at ho h0
        repeat' (first | refine zka ?_ | refine zkb ?_ | (apply RKp.op; ((try simp (disch := (first | omega | exact zX | fail)) only [len_cellX lo' hA', ix_cellX lo' hA', ld_cellX lo' hA', fa_cellX lo' hA', lf_wX lo' hA', lf_aX lo' hA', lf_rX lo' hA', sl_hiX lo' hA', sl_loX lo' hA', sl_lohiX lo' hA', g0, go_sem, Nat.reduceDiv, Nat.reduceMod, Nat.reduceAdd, Nat.reduceSub, Nat.reduceEqDiff, Nat.reduceLeDiff, Nat.reduceLT, Nat.reduceMul, reduceIte, Nat.reducePow, Int.reduceEq]); exact zL); rfl) | (apply RKp.callR; (apply hR <;> (exact zD)); rfl; intro tr htr) | refine zkc ?_ | apply RKg.tt | apply RKg.ff | refine zkd ?_ | refine zke ?_ | refine zkf ?_ | (refine RKg.split (fun h => ?_) (fun h => ?_) <;> (try rw [h]) <;> (replace h := zB h) <;> (try (exfalso; first | exact h | omega))) | apply RK.nil | apply V.sq | apply V.bl | apply V.sc | apply V.skip | apply V.label | apply V.ret | apply V.exit | apply SeqQ.normal | apply SeqQ.ret | apply SeqQ.exit | apply BlockQ.normal | apply BlockQ.ret | apply BlockQ.here | refine zbt ?_ | apply LoopS.ret | apply LoopS.exit | apply LoopF.ret | apply LoopF.exit | apply V.regK | refine zva ?_ | refine zvb ?_ | refine zvc ?_ | refine zvd ?_ | refine zve ?_ | (refine zvf (fun h => ?_) (fun h => ?_) <;> (replace h := zB h) <;> (try (exfalso; first | exact h | omega))) | (refine zfc Tryz.results68 ?_; (try dsimp only)))
        exact own_slA ho h0 (by omega)
  · have hsr : sigR (l, wr) = [] := by unfold sigR sndR; rw [if_neg hG]; rfl
    rw [hsr]
    have hR := fun ys G (x : Ext H' G) => Row_R (ys := ys) (lo := lo') (H := G) (wr := wr) (hA'.ext x) hl h32
    simp only [decide_eq_false hG] at hR
    refine zvin Tryz.func68 Tryz.ntmps68 ?_
    repeat' (first | refine zka ?_ | refine zkb ?_ | (apply RKp.op; ((try simp (disch := (first | omega | exact zX | fail)) only [go_sem, Nat.reduceDiv, Nat.reduceMod, Nat.reduceAdd, Nat.reduceSub, Nat.reduceEqDiff, Nat.reduceLeDiff, Nat.reduceLT, Nat.reduceMul, reduceIte, Nat.reducePow, Int.reduceEq]); exact zL); rfl) | refine zkc ?_ | apply RKg.tt | apply RKg.ff | refine zkd ?_ | refine zke ?_ | refine zkf ?_ | (refine RKg.split (fun h => ?_) (fun h => ?_) <;> (try rw [h]) <;> (replace h := zB h) <;> (try (exfalso; first | exact h | omega))) | apply RK.nil | apply V.sq | apply V.bl | apply V.sc | apply V.skip | apply V.label | apply V.ret | apply V.exit | apply SeqQ.normal | apply SeqQ.ret | apply SeqQ.exit | apply BlockQ.normal | apply BlockQ.ret | apply BlockQ.here | refine zbt ?_ | apply LoopS.ret | apply LoopS.exit | apply LoopF.ret | apply LoopF.exit | apply V.regK | refine zva ?_ | refine zvb ?_ | refine zvc ?_ | refine zvd ?_ | refine zve ?_ | (refine zvf (fun h => ?_) (fun h => ?_) <;> (replace h := zB h) <;> (try (exfalso; first | exact h | omega))) | (refine zfc Tryz.results68 ?_; (try dsimp only)))
    apply V.lpF [4, 3, 5, 6, 7, 8, 9, 10, 11, 12, 13, 14, 15, 16, 17, 18, 19, 20, 21, 22, 23, 24, 25, 26, 27, 28, 29, 30, 31, 32, 33] (fun k xs => ∃ (g : _), xs = .v (.int .i64 0) :: nilA :: g ∧ k = 0) 0
    focus (intro xs; simp only [putMany, set2, Nat.reduceAdd, Nat.reduceDiv, Nat.reduceMod, nth_zero, nth_succ, List.set_cons_zero, List.set_cons_succ]; rfl)
    focus (first | rfl | simp only [readMany, nth_zero, nth_succ, Nat.reduceDiv, Nat.reduceMod])
    · exact ⟨_, rfl, rfl⟩
    · rintro k xs ⟨g, rfl, rfl⟩
      repeat' (first | refine zka ?_ | refine zkb ?_ | (apply RKp.op; ((try simp (disch := (first | omega | exact zX | fail)) only [len_cellX lo' hA', ix_cellX lo' hA', ld_cellX lo' hA', fa_cellX lo' hA', lf_wX lo' hA', lf_aX lo' hA', lf_rX lo' hA', sl_hiX lo' hA', sl_loX lo' hA', sl_lohiX lo' hA', go_sem, Nat.reduceDiv, Nat.reduceMod, Nat.reduceAdd, Nat.reduceSub, Nat.reduceEqDiff, Nat.reduceLeDiff, Nat.reduceLT, Nat.reduceMul, reduceIte, Nat.reducePow, Int.reduceEq]); exact zL); rfl) | (apply RKp.callR; (apply hR <;> (exact zD)); rfl; intro tr htr) | refine zkc ?_ | apply RKg.tt | apply RKg.ff | refine zkd ?_ | refine zke ?_ | refine zkf ?_ | (refine RKg.split (fun h => ?_) (fun h => ?_) <;> (try rw [h]) <;> (replace h := zB h) <;> (try (exfalso; first | exact h | omega))) | apply RK.nil | apply V.sq | apply V.bl | apply V.sc | apply V.skip | apply V.label | apply V.ret | apply V.exit | apply SeqQ.normal | apply SeqQ.ret | apply SeqQ.exit | apply BlockQ.normal | apply BlockQ.ret | apply BlockQ.here | refine zbt ?_ | apply LoopS.ret | apply LoopS.exit | apply LoopF.ret | apply LoopF.exit | apply V.regK | refine zva ?_ | refine zvb ?_ | refine zvc ?_ | refine zvd ?_ | refine zve ?_ | (refine zvf (fun h => ?_) (fun h => ?_) <;> (replace h := zB h) <;> (try (exfalso; first | exact h | omega))) | (refine zfc Tryz.results68 ?_; (try dsimp only)))
      all_goals first
        | rfl
        | trace_state
/-! Lines that may be. -/
theorem Line1_run (r w a : Int) : CallR (ELo oc) ys lo 152 [.agg [.v (.int .i32 r), .v (.int .i64 w), .v (.int .i64 a)]] H (.v (.bool (!decide (lineC ⟨r, w, a⟩)))) H ⟨0, 0, 0⟩ := by
  refine WC.pure' rfl rfl ?_ _ _ _
  refine zvin Tryz.func152 Tryz.ntmps152 ?_
  repeat' (first | apply V.sq | apply V.bl | apply V.sc | apply V.skip | apply V.label | apply V.ret | apply V.exit | apply SeqQ.normal | apply SeqQ.ret | apply SeqQ.exit | apply BlockQ.normal | apply BlockQ.ret | apply BlockQ.here | refine zbt ?_ | apply LoopS.ret | apply LoopS.exit | apply LoopF.ret | apply LoopF.exit | (apply V.reg; (focus ((repeat (first | exact RO.nil | (apply RO.op; rfl; (simp only [go_sem, get_nth, fieldAddrA, Nat.reduceDiv, Nat.reduceMod, Nat.reduceAdd, Nat.reduceSub, Nat.reduceEqDiff, Nat.reduceLeDiff, Nat.reduceLT, Nat.reduceMul, reduceIte, Nat.reducePow, Int.reduceEq, List.toList_toArray]; exact zL); rfl) | (apply RO.opg; exact zW; (intro h; (try simp only [Bool.and_eq_true, Bool.not_eq_true', Bool.not_eq_eq_eq_not, Bool.not_true] at h); simp only [h, go_sem, get_nth, fieldAddrA, Nat.reduceDiv, Nat.reduceMod, Nat.reduceAdd, Nat.reduceSub, Nat.reduceEqDiff, Nat.reduceLeDiff, Nat.reduceLT, Nat.reduceMul, reduceIte, Nat.reducePow, Int.reduceEq, List.toList_toArray]; exact zL); rfl) | (apply RO.call; exact want0 rfl; (simp only [go_sem, get_nth, fieldAddrA, Nat.reduceDiv, Nat.reduceMod, Nat.reduceAdd, Nat.reduceSub, Nat.reduceEqDiff, Nat.reduceLeDiff, Nat.reduceLT, Nat.reduceMul, reduceIte, Nat.reducePow, Int.reduceEq, List.toList_toArray]; rfl); (first | (apply May_run <;> (exact zD)) | (apply IsPad_run <;> (exact zD))); rfl) | (apply RO.callg; exact zW; (intro h; (try simp only [Bool.and_eq_true, Bool.not_eq_true', Bool.not_eq_eq_eq_not, Bool.not_true] at h); simp only [h, go_sem, get_nth, fieldAddrA, Nat.reduceDiv, Nat.reduceMod, Nat.reduceAdd, Nat.reduceSub, Nat.reduceEqDiff, Nat.reduceLeDiff, Nat.reduceLT, Nat.reduceMul, reduceIte, Nat.reducePow, Int.reduceEq, List.toList_toArray]; rfl); (intro h; (try simp only [Bool.and_eq_true, Bool.not_eq_true', Bool.not_eq_eq_eq_not, Bool.not_true] at h); (first | (apply May_run <;> (exact zD)) | (apply IsPad_run <;> (exact zD)))); rfl) | (apply RO.no; apply wantNo; exact zW; (first | rfl | (focus (simp only [Bool.and_false, Bool.false_and, Bool.not_true, Bool.not_false, decide_true, decide_false, Bool.or_true, Bool.true_or, not_true_eq_false, not_false_eq_true, Bool.and_true, Bool.true_and]; done))); rfl))); done))) | (apply V.regd; (focus ((repeat (first | exact RO.nil | (apply RO.op; rfl; (simp only [go_sem, get_nth, fieldAddrA, Nat.reduceDiv, Nat.reduceMod, Nat.reduceAdd, Nat.reduceSub, Nat.reduceEqDiff, Nat.reduceLeDiff, Nat.reduceLT, Nat.reduceMul, reduceIte, Nat.reducePow, Int.reduceEq, List.toList_toArray]; exact zL); rfl) | (apply RO.opg; exact zW; (intro h; (try simp only [Bool.and_eq_true, Bool.not_eq_true', Bool.not_eq_eq_eq_not, Bool.not_true] at h); simp only [h, go_sem, get_nth, fieldAddrA, Nat.reduceDiv, Nat.reduceMod, Nat.reduceAdd, Nat.reduceSub, Nat.reduceEqDiff, Nat.reduceLeDiff, Nat.reduceLT, Nat.reduceMul, reduceIte, Nat.reducePow, Int.reduceEq, List.toList_toArray]; exact zL); rfl) | (apply RO.call; exact want0 rfl; (simp only [go_sem, get_nth, fieldAddrA, Nat.reduceDiv, Nat.reduceMod, Nat.reduceAdd, Nat.reduceSub, Nat.reduceEqDiff, Nat.reduceLeDiff, Nat.reduceLT, Nat.reduceMul, reduceIte, Nat.reducePow, Int.reduceEq, List.toList_toArray]; rfl); (first | (apply May_run <;> (exact zD)) | (apply IsPad_run <;> (exact zD))); rfl) | (apply RO.callg; exact zW; (intro h; (try simp only [Bool.and_eq_true, Bool.not_eq_true', Bool.not_eq_eq_eq_not, Bool.not_true] at h); simp only [h, go_sem, get_nth, fieldAddrA, Nat.reduceDiv, Nat.reduceMod, Nat.reduceAdd, Nat.reduceSub, Nat.reduceEqDiff, Nat.reduceLeDiff, Nat.reduceLT, Nat.reduceMul, reduceIte, Nat.reducePow, Int.reduceEq, List.toList_toArray]; rfl); (intro h; (try simp only [Bool.and_eq_true, Bool.not_eq_true', Bool.not_eq_eq_eq_not, Bool.not_true] at h); (first | (apply May_run <;> (exact zD)) | (apply IsPad_run <;> (exact zD)))); rfl) | (apply RO.no; apply wantNo; exact zW; (first | rfl | (focus (simp only [Bool.and_false, Bool.false_and, Bool.not_true, Bool.not_false, decide_true, decide_false, Bool.or_true, Bool.true_or, not_true_eq_false, not_false_eq_true, Bool.and_true, Bool.true_and]; done))); rfl))); done)); exact zK; exact zE) | (refine zvf (fun h => ?_) (fun h => ?_) <;> (replace h := zB h) <;> (try (exfalso; first | exact h | omega))) | (refine zfc Tryz.results152 ?_; (try dsimp only)))
  rw [frzR_v]
  congr 2
  by_cases h1 : mayC r w a <;> by_cases h2 : w = 0 <;> by_cases h3 : r = 0 ∧ w = 1 ∧ a = 0 <;> simp [lineC, h1, h2, h3, Ce.eqv]
theorem IndexFunc_run (hA : SlH H 3 A (cesA l)) (hl : l.length < 2 ^ 40) : CallRoE (ELo oc) ys lo 174 [A, .fn 152 []] H fun x => ∃ k : Int, x = .v (.int .i64 k) ∧ (0 ≤ k ↔ ¬ lineG l) := by
  refine WC.pureE rfl fun lo' H' hh => ?_
  have hA' := hA.two (.inr ⟨[], .inr (by simp)⟩) hh
  have hlo := lo_two hh
  refine zvin Tryz.func174 Tryz.ntmps174 ?_
  repeat' (first | refine zka ?_ | refine zkb ?_ | (apply RKp.op; ((try simp (disch := (first | omega | exact zX | fail)) only [len_cellX lo' hA', ix_cellX lo' hA', ld_cellX lo' hA', fa_cellX lo' hA', lf_wX lo' hA', lf_aX lo' hA', lf_rX lo' hA', sl_hiX lo' hA', sl_loX lo' hA', sl_lohiX lo' hA', go_sem, Nat.reduceDiv, Nat.reduceMod, Nat.reduceAdd, Nat.reduceSub, Nat.reduceEqDiff, Nat.reduceLeDiff, Nat.reduceLT, Nat.reduceMul, reduceIte, Nat.reducePow, Int.reduceEq]); exact zL); rfl) | refine zkc ?_ | apply RKg.tt | apply RKg.ff | refine zkd ?_ | refine zke ?_ | refine zkf ?_ | (refine RKg.split (fun h => ?_) (fun h => ?_) <;> (try rw [h]) <;> (replace h := zB h) <;> (try (exfalso; first | exact h | omega))) | apply RK.nil | apply V.sq | apply V.bl | apply V.sc | apply V.skip | apply V.label | apply V.ret | apply V.exit | apply SeqQ.normal | apply SeqQ.ret | apply SeqQ.exit | apply BlockQ.normal | apply BlockQ.ret | apply BlockQ.here | refine zbt ?_ | apply LoopS.ret | apply LoopS.exit | apply LoopF.ret | apply LoopF.exit | apply V.regK | refine zvd ?_ | refine zve ?_ | (refine zvf (fun h => ?_) (fun h => ?_) <;> (replace h := zB h) <;> (try (exfalso; first | exact h | omega))) | (refine zfc Tryz.results174 ?_; (try dsimp only)))
  apply V.lpF [8, 4, 5, 9, 10, 11, 12, 13, 14, 15, 16, 17, 18] (fun k xs => ∃ (i : Nat) (g : _), xs = .v (.int .i64 i) :: g ∧ k = l.length - i ∧ i ≤ l.length ∧ ∀ j, j < i → lineC (l.getD j zeroC)) l.length
  focus (intro xs; simp only [putMany, set2, Nat.reduceAdd, Nat.reduceDiv, Nat.reduceMod, nth_zero, nth_succ, List.set_cons_zero, List.set_cons_succ]; rfl)
  focus (first | rfl | simp only [readMany, nth_zero, nth_succ, Nat.reduceDiv, Nat.reduceMod])
  · exact ⟨0, _, rfl, rfl, Nat.zero_le _, fun j h => absurd h (Nat.not_lt_zero _)⟩
  · rintro k xs ⟨i, g, rfl, rfl, hi, hst⟩
    by_cases hlt : i < l.length
    · repeat' (first | refine zka ?_ | refine zkb ?_ | (apply RKp.op; ((try simp (disch := (first | omega | exact zX | fail)) only [len_cellX lo' hA', ix_cellX lo' hA', ld_cellX lo' hA', fa_cellX lo' hA', lf_wX lo' hA', lf_aX lo' hA', lf_rX lo' hA', sl_hiX lo' hA', sl_loX lo' hA', sl_lohiX lo' hA', List.append_nil, Int.toNat_natCast, go_sem, Nat.reduceDiv, Nat.reduceMod, Nat.reduceAdd, Nat.reduceSub, Nat.reduceEqDiff, Nat.reduceLeDiff, Nat.reduceLT, Nat.reduceMul, reduceIte, Nat.reducePow, Int.reduceEq]); exact zL); rfl) | (apply RKp.call; (apply Line1_run <;> (exact zD)); rfl) | refine zkc ?_ | apply RKg.tt | apply RKg.ff | refine zkd ?_ | refine zke ?_ | refine zkf ?_ | (refine RKg.split (fun h => ?_) (fun h => ?_) <;> (try rw [h]) <;> (replace h := zB h) <;> (try (exfalso; first | exact h | omega))) | apply RK.nil | apply V.sq | apply V.bl | apply V.sc | apply V.skip | apply V.label | apply V.ret | apply V.exit | apply SeqQ.normal | apply SeqQ.ret | apply SeqQ.exit | apply BlockQ.normal | apply BlockQ.ret | apply BlockQ.here | refine zbt ?_ | apply LoopS.ret | apply LoopS.exit | apply LoopF.ret | apply LoopF.exit | apply V.regK | refine zvd ?_ | refine zve ?_ | (refine zvf (fun h => ?_) (fun h => ?_) <;> (replace h := zB h) <;> (try (exfalso; first | exact h | omega))) | (refine zfc Tryz.results174 ?_; (try dsimp only)))
      all_goals first
        | (refine ⟨i, by rw [frzR_v], fun _ hg => ?_, fun _ => by omega⟩
           have := hg (l.getD i zeroC) (by rw [List.getD_eq_getElem?_getD, List.getElem?_eq_getElem hlt]; exact List.getElem_mem _)
           simp_all)
        | (refine LoopF.again (l.length - (i + 1)) (by rfl) (by omega) ⟨i + 1, _, rfl, rfl, by omega, fun j hj => ?_⟩
           rcases Nat.lt_succ_iff_lt_or_eq.1 hj with hj | rfl
           · exact hst j hj
           · simp_all)
        | trace_state
    · have e : i = l.length := by omega
      subst e
      repeat' (first | refine zka ?_ | refine zkb ?_ | (apply RKp.op; ((try simp (disch := (first | omega | exact zX | fail)) only [len_cellX lo' hA', ix_cellX lo' hA', ld_cellX lo' hA', fa_cellX lo' hA', lf_wX lo' hA', lf_aX lo' hA', lf_rX lo' hA', sl_hiX lo' hA', sl_loX lo' hA', sl_lohiX lo' hA', go_sem, Nat.reduceDiv, Nat.reduceMod, Nat.reduceAdd, Nat.reduceSub, Nat.reduceEqDiff, Nat.reduceLeDiff, Nat.reduceLT, Nat.reduceMul, reduceIte, Nat.reducePow, Int.reduceEq]); exact zL); rfl) | refine zkc ?_ | apply RKg.tt | apply RKg.ff | refine zkd ?_ | refine zke ?_ | refine zkf ?_ | (refine RKg.split (fun h => ?_) (fun h => ?_) <;> (try rw [h]) <;> (replace h := zB h) <;> (try (exfalso; first | exact h | omega))) | apply RK.nil | apply V.sq | apply V.bl | apply V.sc | apply V.skip | apply V.label | apply V.ret | apply V.exit | apply SeqQ.normal | apply SeqQ.ret | apply SeqQ.exit | apply BlockQ.normal | apply BlockQ.ret | apply BlockQ.here | refine zbt ?_ | apply LoopS.ret | apply LoopS.exit | apply LoopF.ret | apply LoopF.exit | apply V.regK | refine zvd ?_ | refine zve ?_ | (refine zvf (fun h => ?_) (fun h => ?_) <;> (replace h := zB h) <;> (try (exfalso; first | exact h | omega))) | (refine zfc Tryz.results174 ?_; (try dsimp only)))
      refine ⟨-1, by rw [frzR_v], fun h => absurd h (by decide), fun h => absurd ?_ h⟩
      intro c hc
      obtain ⟨j, hj, rfl⟩ := List.mem_iff_getElem.1 hc
      have := hst j hj
      rwa [List.getD_eq_getElem?_getD, List.getElem?_eq_getElem hj] at this
theorem ContainsFunc_run (hA : SlH H 3 A (cesA l)) (hl : l.length < 2 ^ 40) : CallRo (ELo oc) ys lo 151 [A, .fn 152 []] H (.v (.bool (decide (¬ lineG l)))) := by
  refine WC.pureR rfl fun lo' H' hh => ?_
  have hA' := hA.two (.inr ⟨[], .inr (by simp)⟩) hh
  have hI := fun ys => IndexFunc_run (ys := ys) (lo := lo') hA' hl
  refine zvin Tryz.func151 Tryz.ntmps151 ?_
  repeat' (first | refine zka ?_ | refine zkb ?_ | (apply RKp.op; ((try simp (disch := (first | omega | exact zX | fail)) only [go_sem, Nat.reduceDiv, Nat.reduceMod, Nat.reduceAdd, Nat.reduceSub, Nat.reduceEqDiff, Nat.reduceLeDiff, Nat.reduceLT, Nat.reduceMul, reduceIte, Nat.reducePow, Int.reduceEq]); exact zL); rfl) | (apply RKp.callRE; (apply hI <;> (exact zD)); (intro x; rfl)) | refine zkc ?_ | apply RKg.tt | apply RKg.ff | refine zkd ?_ | refine zke ?_ | refine zkf ?_ | (refine RKg.split (fun h => ?_) (fun h => ?_) <;> (try rw [h]) <;> (replace h := zB h) <;> (try (exfalso; first | exact h | omega))) | apply RK.nil | apply V.sq | apply V.bl | apply V.sc | apply V.skip | apply V.label | apply V.ret | apply V.exit | apply SeqQ.normal | apply SeqQ.ret | apply SeqQ.exit | apply BlockQ.normal | apply BlockQ.ret | apply BlockQ.here | refine zbt ?_ | apply LoopS.ret | apply LoopS.exit | apply LoopF.ret | apply LoopF.exit | apply V.regK | refine zvd ?_ | refine zve ?_ | (refine zvf (fun h => ?_) (fun h => ?_) <;> (replace h := zB h) <;> (try (exfalso; first | exact h | omega))) | (refine zfc Tryz.results151 ?_; (try dsimp only)))
  rintro x tr htr ⟨k, rfl, hk⟩
  repeat' (first | refine zka ?_ | refine zkb ?_ | (apply RKp.op; ((try simp (disch := (first | omega | exact zX | fail)) only [go_sem, Nat.reduceDiv, Nat.reduceMod, Nat.reduceAdd, Nat.reduceSub, Nat.reduceEqDiff, Nat.reduceLeDiff, Nat.reduceLT, Nat.reduceMul, reduceIte, Nat.reducePow, Int.reduceEq]); exact zL); rfl) | refine zkc ?_ | apply RKg.tt | apply RKg.ff | refine zkd ?_ | refine zke ?_ | refine zkf ?_ | (refine RKg.split (fun h => ?_) (fun h => ?_) <;> (try rw [h]) <;> (replace h := zB h) <;> (try (exfalso; first | exact h | omega))) | apply RK.nil | apply V.sq | apply V.bl | apply V.sc | apply V.skip | apply V.label | apply V.ret | apply V.exit | apply SeqQ.normal | apply SeqQ.ret | apply SeqQ.exit | apply BlockQ.normal | apply BlockQ.ret | apply BlockQ.here | refine zbt ?_ | apply LoopS.ret | apply LoopS.exit | apply LoopF.ret | apply LoopF.exit | apply V.regK | refine zvd ?_ | refine zve ?_ | (refine zvf (fun h => ?_) (fun h => ?_) <;> (replace h := zB h) <;> (try (exfalso; first | exact h | omega))) | (refine zfc Tryz.results151 ?_; (try dsimp only)))
  rw [frzR_v]; congr 2
  exact decide_eq_decide.2 hk
theorem Line_run (hA : SlH H 3 A (cesA l)) (hl : l.length < 2 ^ 40) : CallRo (ELo oc) ys lo 108 [A] H (.v (.bool (decide (lineG l)))) := by
  refine WC.pureR rfl fun lo' H' hh => ?_
  have hA' := hA.two (.inr ⟨[], .inr (by simp)⟩) hh
  have hI := fun ys => ContainsFunc_run (ys := ys) (lo := lo') hA' hl
  refine zvin Tryz.func108 Tryz.ntmps108 ?_
  repeat' (first | refine zka ?_ | refine zkb ?_ | (apply RKp.op; ((try simp (disch := (first | omega | exact zX | fail)) only [go_sem, Nat.reduceDiv, Nat.reduceMod, Nat.reduceAdd, Nat.reduceSub, Nat.reduceEqDiff, Nat.reduceLeDiff, Nat.reduceLT, Nat.reduceMul, reduceIte, Nat.reducePow, Int.reduceEq]); exact zL); rfl) | (apply RKp.callR; (apply hI <;> (exact zD)); rfl; intro tr htr) | refine zkc ?_ | apply RKg.tt | apply RKg.ff | refine zkd ?_ | refine zke ?_ | refine zkf ?_ | (refine RKg.split (fun h => ?_) (fun h => ?_) <;> (try rw [h]) <;> (replace h := zB h) <;> (try (exfalso; first | exact h | omega))) | apply RK.nil | apply V.sq | apply V.bl | apply V.sc | apply V.skip | apply V.label | apply V.ret | apply V.exit | apply SeqQ.normal | apply SeqQ.ret | apply SeqQ.exit | apply BlockQ.normal | apply BlockQ.ret | apply BlockQ.here | refine zbt ?_ | apply LoopS.ret | apply LoopS.exit | apply LoopF.ret | apply LoopF.exit | apply V.regK | refine zvd ?_ | refine zve ?_ | (refine zvf (fun h => ?_) (fun h => ?_) <;> (replace h := zB h) <;> (try (exfalso; first | exact h | omega))) | (refine zfc Tryz.results108 ?_; (try dsimp only)))
  rw [frzR_v]; congr 2
  by_cases h : lineG l <;> simp [h]
theorem may_run (hA : SlH H 3 A (cesA l)) (hl : l.length < 2 ^ 40) (w : Int) : CallRo (ELo oc) ys lo 72 [A, .v (.int .i64 w)] H (.v (.bool (decide (mayL l w)))) := by
  refine WC.pureR rfl fun lo' H' hh => ?_
  have hA' := hA.two (.inr ⟨[], .inr (by simp)⟩) hh
  have hI := fun ys => Line_run (ys := ys) (lo := lo') hA' hl
  refine zvin Tryz.func72 Tryz.ntmps72 ?_
  repeat' (first | refine zka ?_ | refine zkb ?_ | (apply RKp.op; ((try simp (disch := (first | omega | exact zX | fail)) only [go_sem, Nat.reduceDiv, Nat.reduceMod, Nat.reduceAdd, Nat.reduceSub, Nat.reduceEqDiff, Nat.reduceLeDiff, Nat.reduceLT, Nat.reduceMul, reduceIte, Nat.reducePow, Int.reduceEq]); exact zL); rfl) | (apply RKp.callR; (apply hI <;> (exact zD)); rfl; intro tr htr) | refine zkc ?_ | apply RKg.tt | apply RKg.ff | refine zkd ?_ | refine zke ?_ | refine zkf ?_ | (refine RKg.split (fun h => ?_) (fun h => ?_) <;> (try rw [h]) <;> (replace h := zB h) <;> (try (exfalso; first | exact h | omega))) | apply RK.nil | apply V.sq | apply V.bl | apply V.sc | apply V.skip | apply V.label | apply V.ret | apply V.exit | apply SeqQ.normal | apply SeqQ.ret | apply SeqQ.exit | apply BlockQ.normal | apply BlockQ.ret | apply BlockQ.here | refine zbt ?_ | apply LoopS.ret | apply LoopS.exit | apply LoopF.ret | apply LoopF.exit | apply V.regK | refine zvd ?_ | refine zve ?_ | (refine zvf (fun h => ?_) (fun h => ?_) <;> (replace h := zB h) <;> (try (exfalso; first | exact h | omega))) | (refine zfc Tryz.results72 ?_; (try dsimp only)))
  all_goals (rw [frzR_v]; congr 2; unfold mayL; first | exact (decide_eq_false (fun z => by obtain ⟨z1, z2, _⟩ := z; omega)).symm | exact decide_eq_decide.2 ⟨fun z => ⟨by omega, by omega, z⟩, fun z => z.2.2⟩ | trace_state)
end
end Go.Am
