
/- Screens: fit, Of, New; the reference's. -/
import Derived.Test.YtoeemmlfcnokiaaAScr3
set_option linter.all false
set_option linter.deprecated false
namespace Go.Am
open Go.Proofs
set_option maxRecDepth 8000
set_option maxHeartbeats 4000000

/-- Cells cut, a half at the edge a blank, filled up. -/
def cutL (w : Nat) (l : List Ce) : List Ce := if (l.take w).length > 0 ∧ ((l.take w).getD ((l.take w).length - 1) zeroC).w = 2 then (l.take w).set ((l.take w).length - 1) blankC else l.take w
def fitL (w : Nat) (l : List Ce) : List Ce := cutL w l ++ blanks (w - (cutL w l).length)
def fitR (w : Int) (r : Rw) : Rw := if rowG r.1 then (fitL w.toNat r.1, r.2) else (blanks w.toNat, false)
section
variable {ys : List (Nat × LRec)} {lo : Nat} {H : AHeap} {A B : AV} {l : List Ce} {wr : Bool}
theorem May_big (hA : Sl 3 A (cesA l)) (hl : l.length < 2 ^ 63) : CallRo EA ys lo 46 [.agg [A, .v (.bool wr)]] H (.v (.bool (decide (rowG l)))) := by
  by_cases h300 : l.length ≤ 300
  · exact May_R (.inl hA) (by omega)
  · refine WC.pureR rfl fun lo' H' hh => ?_
    have hA' : SlH H' 3 A (cesA l) := .inl hA
    refine zvin Try.func46 Try.ntmps46 ?_
    repeat' (first
     | refine zka ?_
     | refine zkb ?_
     | (apply RKp.op; ((try simp (disch := (first | omega | exact zX | exact zO | fail)) only [len_cellX lo' hA', go_sem, Nat.reduceDiv, Nat.reduceMod, Nat.reduceAdd, Nat.reduceSub, Nat.reduceEqDiff, Nat.reduceLeDiff, Nat.reduceLT, Nat.reduceMul, reduceIte, Nat.reducePow, Int.reduceEq]); exact zL); rfl)
     | refine zkc ?_
     | apply RKg.tt
     | apply RKg.ff
     | refine zkd ?_
     | refine zke ?_
     | refine zkf ?_
     | (refine RKg.split (fun h => ?_) (fun h => ?_) <;> (try rw [h]) <;> (replace h := zB h) <;> (try (exfalso; first | exact h | omega)))
     | apply RK.nil
     | apply V.sq
     | apply V.bl
     | apply V.sc
     | apply V.skip
     | apply V.label
     | apply V.ret
     | apply V.exit
     | apply SeqQ.normal
     | apply SeqQ.ret
     | apply SeqQ.exit
     | apply BlockQ.normal
     | apply BlockQ.ret
     | apply BlockQ.here
     | refine zbt ?_
     | apply LoopS.ret
     | apply LoopS.exit
     | apply LoopF.ret
     | apply LoopF.exit
     | apply V.regK
      | refine zva ?_
     | refine zvb ?_
     | refine zgc ?_
     | refine zvd ?_
     | refine zve ?_
     | (refine zvf (fun h => ?_) (fun h => ?_) <;> (replace h := zB h) <;> (try (exfalso; first | exact h | omega)))
      | (refine zfc Try.results46 ?_; (try dsimp only)))
    rw [frzR_v, decide_eq_false (fun h => h300 h.1)]
theorem fit_run (hA : Sl 3 A (cesA l)) (hl : l.length < 2 ^ 63) (w : Int) (w2 : 2 ≤ w) (w3 : w ≤ 300) : CallRo EA ys lo 53 [.agg [A, .v (.bool wr)], .v (.int .i64 w)] H (.agg [.sl 3 (cesA (fitR w (l, wr)).1), .v (.bool (fitR w (l, wr)).2)]) := by
  refine WC.pureR rfl fun lo' H' hh => ?_
  have hlo := lo_two hh
  have hA' : SlH H' 3 A (cesA l) := .inl hA
  have hBl := fun ys G => Blank_D (ys := ys) (lo := lo') (H := G) w (by omega) w3
  have hMay := fun ys G => May_big (ys := ys) (lo := lo') (H := G) (wr := wr) hA hl
  unfold fitR
  by_cases hG : rowG l
  · have d1 : decide (rowG l) = true := decide_eq_true hG
    rw [if_pos hG]
    dsimp only
    have hl3 := hG.1
    have hk : (min (l.length : Int) w).toNat = min w.toNat l.length := by omega
    have hcut : SlH H' 3 (cutA A 0 (min w.toNat l.length)) (cesA (l.take w.toNat)) := by
      have := cut_hi hA' (min w.toNat l.length) (by omega)
      rw [show l.take (min w.toNat l.length) = l.take w.toNat by rw [List.take_eq_take_iff]; omega] at this
      exact this
    have hlen0 : (l.take w.toNat).length = min w.toNat l.length := List.length_take
    have hcl := fun ys G (x : Ext H' G) => Clone_E (ys := ys) (lo := lo') (hcut.ext x) (by omega)
    have hcB := cells_SlH hA'
    refine zvin Try.func53 Try.ntmps53 ?_
    repeat' (first
     | refine zka ?_
     | refine zkb ?_
     | (apply RKp.op; ((try simp (disch := (first | omega | exact zX | exact zO | fail)) only [len_cellX lo' hA', ix_cellX lo' hA', ld_cellX lo' hA', fa_cellX lo' hA', lf_wX lo' hA', lf_aX lo' hA', lf_rX lo' hA', sl_hiX lo' hA', sl_loX lo' hA', sl_lohiX lo' hA', d1, hk, hcB, go_sem, Nat.reduceDiv, Nat.reduceMod, Nat.reduceAdd, Nat.reduceSub, Nat.reduceEqDiff, Nat.reduceLeDiff, Nat.reduceLT, Nat.reduceMul, reduceIte, Nat.reducePow, Int.reduceEq]); exact zL); rfl)
     | (apply RKp.callR; (apply hMay <;> (exact zD)); rfl; intro tr htr)
     | (apply RKp.callE; (apply hcl <;> (exact zD)); (intro x; rfl))
     | refine zkc ?_
     | apply RKg.tt
     | apply RKg.ff
     | refine zkd ?_
     | refine zke ?_
     | refine zkf ?_
     | (refine RKg.split (fun h => ?_) (fun h => ?_) <;> (try rw [h]) <;> (replace h := zB h) <;> (try (exfalso; first | exact h | omega)))
     | apply RK.nil
     | apply V.sq
     | apply V.bl
     | apply V.sc
     | apply V.skip
     | apply V.label
     | apply V.ret
     | apply V.exit
     | apply SeqQ.normal
     | apply SeqQ.ret
     | apply SeqQ.exit
     | apply BlockQ.normal
     | apply BlockQ.ret
     | apply BlockQ.here
     | refine zbt ?_
     | apply LoopS.ret
     | apply LoopS.exit
     | apply LoopF.ret
     | apply LoopF.exit
     | apply V.regK
      | refine zva ?_
     | refine zvb ?_
     | refine zgc ?_
     | refine zvd ?_
     | refine zve ?_
     | (refine zvf (fun h => ?_) (fun h => ?_) <;> (replace h := zB h) <;> (try (exfalso; first | exact h | omega)))
      | (refine FnQ.retB (resc Try.results53) (by simp (disch := (first | omega | exact zX | exact zO | fail)) only [cellR_op, len_cellX lo' hA', ix_cellX lo' hA', ld_cellX lo' hA', fa_cellX lo' hA', lf_wX lo' hA', lf_aX lo' hA', lf_rX lo' hA', sl_hiX lo' hA', sl_loX lo' hA', sl_lohiX lo' hA', d1, hk, hcB, go_sem, Nat.reduceDiv, Nat.reduceMod, Nat.reduceAdd, Nat.reduceSub, Nat.reduceEqDiff, Nat.reduceLeDiff, Nat.reduceLT, Nat.reduceMul, reduceIte, Nat.reducePow, Int.reduceEq]; rfl) ?_; (try dsimp only)))
    rintro x H2 tr (⟨e0, hx, rfl⟩ | ⟨ne, rfl, rfl⟩)
    · have hx1 : cellsOf x = some [x] := by rcases hx with rfl | rfl <;> rfl
      have hxl : ∀ G, primL lo' G (builtinA EA .len #[43] 3 [x]) = some (.v (.int .i64 0), G, ⟨0, 0, 0⟩) := fun G => by rcases hx with rfl | rfl <;> rfl
      repeat' (first
       | refine zka ?_
       | refine zkb ?_
       | (apply RKp.op; ((try simp (disch := (first | omega | exact zX | exact zO | fail)) only [hx1, hxl, go_sem, Nat.reduceDiv, Nat.reduceMod, Nat.reduceAdd, Nat.reduceSub, Nat.reduceEqDiff, Nat.reduceLeDiff, Nat.reduceLT, Nat.reduceMul, reduceIte, Nat.reducePow, Int.reduceEq]); exact zL); rfl)
       | refine zkc ?_
       | apply RKg.tt
       | apply RKg.ff
       | refine zkd ?_
       | refine zke ?_
       | refine zkf ?_
       | (refine RKg.split (fun h => ?_) (fun h => ?_) <;> (try rw [h]) <;> (replace h := zB h) <;> (try (exfalso; first | exact h | omega)))
       | apply RK.nil
       | apply V.sq
       | apply V.bl
       | apply V.sc
       | apply V.skip
       | apply V.label
       | apply V.ret
       | apply V.exit
       | apply SeqQ.normal
       | apply SeqQ.ret
       | apply SeqQ.exit
       | apply BlockQ.normal
       | apply BlockQ.ret
       | apply BlockQ.here
       | refine zbt ?_
       | apply LoopS.ret
       | apply LoopS.exit
       | apply LoopF.ret
       | apply LoopF.exit
       | apply V.regK
        | refine zva ?_
       | refine zvb ?_
       | refine zgc ?_
       | refine zvd ?_
       | refine zve ?_
       | (refine zvf (fun h => ?_) (fun h => ?_) <;> (replace h := zB h) <;> (try (exfalso; first | exact h | omega)))
        | (refine FnQ.retB (resc Try.results53) (by simp (disch := (first | omega | exact zX | exact zO | fail)) only [cellR_op, hx1, hxl, go_sem, Nat.reduceDiv, Nat.reduceMod, Nat.reduceAdd, Nat.reduceSub, Nat.reduceEqDiff, Nat.reduceLeDiff, Nat.reduceLT, Nat.reduceMul, reduceIte, Nat.reducePow, Int.reduceEq]; rfl) ?_; (try dsimp only)))
      have hcu : cutL w.toNat l = [] := by
        unfold cutL; rw [e0]; rfl
      unfold fitL
      rw [hcu]
      obtain ⟨c, hc0⟩ : ∃ c : List Ce, c = [] := ⟨_, rfl⟩
      rw [← hc0]
      have hcl2 : c.length = 0 := by rw [hc0]; rfl
      obtain ⟨x0, hx0⟩ : ∃ x0 : AV, x0 = x := ⟨_, rfl⟩
      apply V.lpS [42, 43, 44, 45, 46, 47, 48, 49, 50, 51, 52] (fun k xs H2 => ∃ (i : Nat) (x : AV), k = w.toNat - (c.length + i) ∧ c.length + i ≤ w.toNat ∧ H'.next + 2 ≤ H2.next ∧ H2.get H'.next = some (rblk x wr) ∧ H2.get (H'.next + 1) = some zblk ∧ OwS H2 (H'.next + 2) 47 3 x (cesA (c ++ blanks i))) (w.toNat - c.length)
      focus (intro xs; simp only [putMany, set2, Nat.reduceAdd, Nat.reduceDiv, Nat.reduceMod, nth_zero, nth_succ, List.set_cons_zero, List.set_cons_succ]; rfl)
      focus (first | rfl | simp only [readMany, nth_zero, nth_succ, Nat.reduceDiv, Nat.reduceMod])
      · refine ⟨0, x0, rfl, by omega, by (first | omega | (simp only [next_push, next_set, next_empty]; done) | (simp only [next_push, next_set, next_empty]; omega)), by rw [hx0]; simp (disch := (first | omega | exact zX | fail)) only [get_set, get_push, next_push, next_set, if_pos', if_neg', if_true, if_false, reduceIte], by simp (disch := (first | omega | exact zX | fail)) only [get_set, get_push, next_push, next_set, if_pos', if_neg', if_true, if_false, reduceIte], ?_⟩
        rw [hx0]
        rw [show c ++ blanks 0 = c from List.append_nil c]
        first
        | exact .inl ⟨by rw [hc0]; rfl, hx.symm⟩
        | exact .inr ⟨_, 0, by rw [ces_len], by omega, by (first | omega | (simp only [next_push, next_set, next_empty]; done) | (simp only [next_push, next_set, next_empty]; omega)), by simp (disch := (first | omega | exact zX | fail)) only [get_set, get_push, next_push, next_set, if_pos', if_neg', if_true, if_false, reduceIte]⟩
        | exact .inr ⟨_, 0, by rw [ces_len, hcl2], by omega, by (first | omega | (simp only [next_push, next_set, next_empty]; done) | (simp only [next_push, next_set, next_empty]; omega)), by rw [hc0]; simp (disch := (first | omega | exact zX | fail)) only [get_set, get_push, next_push, next_set, if_pos', if_neg', if_true, if_false, reduceIte]⟩
        | trace_state
      · rintro k xs H2 ⟨i, x, rfl, hi, hn2, g0, g1, ho⟩
        have hln : (c ++ blanks i).length = c.length + i := by rw [List.length_append, blanks_len]
        obtain ⟨x', H3, tr3, happ, ho', hnx, hfr⟩ := ho.add1 EA lo' app_cell (by omega) hn2 (by rw [ces_len, hln]; unfold roomMax; omega) [.v (.int .i32 32), .v (.int .i64 1), .v (.int .i64 0)]
        have k0 : H3.get H'.next = some (rblk x wr) := by rw [hfr _ (by omega)]; exact g0
        have k1 : H3.get (H'.next + 1) = some zblk := by rw [hfr _ (by omega)]; exact g1
        have hc := ho.cells
        have hc' := ho'.cells
        have hlx := len_cell lo' ho.slh
        rw [hln] at hlx
        repeat' (first
         | refine zka ?_
         | refine zkb ?_
         | (apply RKp.op; ((try simp (disch := (first | omega | exact zX | exact zO | fail)) only [happ, g0, g1, k0, k1, hc, hc', hlx, go_sem, Nat.reduceDiv, Nat.reduceMod, Nat.reduceAdd, Nat.reduceSub, Nat.reduceEqDiff, Nat.reduceLeDiff, Nat.reduceLT, Nat.reduceMul, reduceIte, Nat.reducePow, Int.reduceEq]); exact zL); rfl)
         | (apply RKp.call; (apply Blank_run <;> (exact zD)); rfl)
         | refine zkc ?_
         | apply RKg.tt
         | apply RKg.ff
         | refine zkd ?_
         | refine zke ?_
         | refine zkf ?_
         | (refine RKg.split (fun h => ?_) (fun h => ?_) <;> (try rw [h]) <;> (replace h := zB h) <;> (try (exfalso; first | exact h | omega)))
         | apply RK.nil
         | apply V.sq
         | apply V.bl
         | apply V.sc
         | apply V.skip
         | apply V.label
         | apply V.ret
         | apply V.exit
         | apply SeqQ.normal
         | apply SeqQ.ret
         | apply SeqQ.exit
         | apply BlockQ.normal
         | apply BlockQ.ret
         | apply BlockQ.here
         | refine zbt ?_
         | apply LoopS.ret
         | apply LoopS.exit
         | apply LoopF.ret
         | apply LoopF.exit
         | apply V.regK
          | refine zva ?_
         | refine zvb ?_
         | refine zgc ?_
         | refine zvd ?_
         | refine zve ?_
         | (refine zvf (fun h => ?_) (fun h => ?_) <;> (replace h := zB h) <;> (try (exfalso; first | exact h | omega)))
          | (refine FnQ.retB (resc Try.results53) (by simp (disch := (first | omega | exact zX | exact zO | fail)) only [cellR_op, happ, g0, g1, k0, k1, hc, hc', hlx, go_sem, Nat.reduceDiv, Nat.reduceMod, Nat.reduceAdd, Nat.reduceSub, Nat.reduceEqDiff, Nat.reduceLeDiff, Nat.reduceLT, Nat.reduceMul, reduceIte, Nat.reducePow, Int.reduceEq]; rfl) ?_; (try dsimp only)))
        · refine LoopS.again (w.toNat - (c.length + (i + 1))) (by rfl) (by omega) ⟨i + 1, x', rfl, by omega, by (first | omega | (simp only [next_push, next_set, next_empty]; done) | (simp only [next_push, next_set, next_empty]; omega)), by simp (disch := (first | omega | exact zX | fail)) only [get_set, get_push, next_push, next_set, if_pos', if_neg', if_true, if_false, reduceIte], by rw [get_set, if_neg (by omega)]; exact k1, ?_⟩
          have e9 : cesA (c ++ blanks i) ++ [[.v (.int .i32 32), .v (.int .i64 1), .v (.int .i64 0)]] = cesA (c ++ blanks (i + 1)) := by
            have := blanks_succ i
            simp only [cesA, List.map_append] at this ⊢
            rw [List.append_assoc, this]
          rw [e9] at ho'
          exact ho'.set (by omega) _
        · have ei : i = w.toNat - c.length := by omega
          have ho2 := ho.set (m := H'.next + 1) (by omega) (rblk x wr)
          rw [← ei]
          obtain ⟨y, hy1, hy2⟩ : ∃ y, frzC (H2.set (H'.next + 1) (rblk x wr)) lo' x = y ∧ Sl 3 y (cesA (c ++ blanks i)) := by
            rcases ho2 with ⟨h1, rfl | rfl⟩ | ⟨n, e, rfl, h1, h2, h3⟩
            · exact ⟨_, frzC_e0 _ _, .inr ⟨h1, .inl rfl⟩⟩
            · exact ⟨_, frzC_v _ _ _, .inr ⟨h1, .inr rfl⟩⟩
            · exact ⟨_, osC_frz2 (by omega) h3 (by rw [ces_len]), .inl rfl⟩
          rw [frzR_agg, List.map_cons, List.map_cons, List.map_nil, frzC_v, hy1, Sl_ne hy2 (ces_ne (fun e => by rw [e] at hln; simp at hln; omega))]
    · have hfit : fitL w.toNat l = cutL w.toNat l ++ blanks (w.toNat - (cutL w.toNat l).length) := rfl
      rw [hfit]
      unfold cutL
      generalize l.take w.toNat = t at *
      have e1 : (List.take t.length (cesA t)).length = t.length := by simp
      have tp : 0 < t.length := List.length_pos_iff.2 ne
      have e2 : ((t.length : Int) - 1).toNat = t.length - 1 := by omega
      have e3 : List.take t.length (cesA t) = cesA t := by rw [List.take_of_length_le (by simp)]
      repeat' (first
       | refine zka ?_
       | refine zkb ?_
       | (apply RKp.op; ((try simp (disch := (first | omega | exact zX | exact zO | fail)) only [len_cellX lo' hA', ix_cellX lo' hA', ld_cellX lo' hA', fa_cellX lo' hA', lf_wX lo' hA', lf_aX lo' hA', lf_rX lo' hA', sl_hiX lo' hA', sl_loX lo' hA', sl_lohiX lo' hA', ces_len, e1, e2, e3, nth_cesA, ces_set, hz3, drop3, go_sem, Nat.reduceDiv, Nat.reduceMod, Nat.reduceAdd, Nat.reduceSub, Nat.reduceEqDiff, Nat.reduceLeDiff, Nat.reduceLT, Nat.reduceMul, reduceIte, Nat.reducePow, Int.reduceEq]); exact zL); rfl)
       | (apply RKp.call; (apply Blank_run <;> (exact zD)); rfl)
       | refine zkc ?_
       | apply RKg.tt
       | apply RKg.ff
       | refine zkd ?_
       | refine zke ?_
       | refine zkf ?_
       | (refine RKg.split (fun h => ?_) (fun h => ?_) <;> (try rw [h]) <;> (replace h := zB h) <;> (try (exfalso; first | exact h | omega)))
       | apply RK.nil
       | apply V.sq
       | apply V.bl
       | apply V.sc
       | apply V.skip
       | apply V.label
       | apply V.ret
       | apply V.exit
       | apply SeqQ.normal
       | apply SeqQ.ret
       | apply SeqQ.exit
       | apply BlockQ.normal
       | apply BlockQ.ret
       | apply BlockQ.here
       | refine zbt ?_
       | apply LoopS.ret
       | apply LoopS.exit
       | apply LoopF.ret
       | apply LoopF.exit
       | apply V.regK
        | refine zva ?_
       | refine zvb ?_
       | refine zgc ?_
       | refine zvd ?_
       | refine zve ?_
       | (refine zvf (fun h => ?_) (fun h => ?_) <;> (replace h := zB h) <;> (try (exfalso; first | exact h | omega)))
        | (refine FnQ.retB (resc Try.results53) (by simp (disch := (first | omega | exact zX | exact zO | fail)) only [cellR_op, len_cellX lo' hA', ix_cellX lo' hA', ld_cellX lo' hA', fa_cellX lo' hA', lf_wX lo' hA', lf_aX lo' hA', lf_rX lo' hA', sl_hiX lo' hA', sl_loX lo' hA', sl_lohiX lo' hA', ces_len, e1, e2, e3, nth_cesA, ces_set, hz3, drop3, go_sem, Nat.reduceDiv, Nat.reduceMod, Nat.reduceAdd, Nat.reduceSub, Nat.reduceEqDiff, Nat.reduceLeDiff, Nat.reduceLT, Nat.reduceMul, reduceIte, Nat.reducePow, Int.reduceEq]; rfl) ?_; (try dsimp only)))
      · rw [if_pos ⟨tp, h⟩]
        obtain ⟨c, hc0⟩ : ∃ c : List Ce, c = t.set (t.length - 1) blankC := ⟨_, rfl⟩
        rw [← hc0]
        have hcl2 : c.length = t.length := by rw [hc0, List.length_set]
        obtain ⟨x0, hx0⟩ : ∃ x0 : AV, x0 = .os (H'.next + 1 + 1) 0 0 t.length := ⟨_, rfl⟩
        apply V.lpS [42, 43, 44, 45, 46, 47, 48, 49, 50, 51, 52] (fun k xs H2 => ∃ (i : Nat) (x : AV), k = w.toNat - (c.length + i) ∧ c.length + i ≤ w.toNat ∧ H'.next + 2 ≤ H2.next ∧ H2.get H'.next = some (rblk x wr) ∧ H2.get (H'.next + 1) = some zblk ∧ OwS H2 (H'.next + 2) 47 3 x (cesA (c ++ blanks i))) (w.toNat - c.length)
        focus (intro xs; simp only [putMany, set2, Nat.reduceAdd, Nat.reduceDiv, Nat.reduceMod, nth_zero, nth_succ, List.set_cons_zero, List.set_cons_succ]; rfl)
        focus (first | rfl | simp only [readMany, nth_zero, nth_succ, Nat.reduceDiv, Nat.reduceMod])
        · refine ⟨0, x0, rfl, by omega, by (first | omega | (simp only [next_push, next_set, next_empty]; done) | (simp only [next_push, next_set, next_empty]; omega)), by rw [hx0]; simp (disch := (first | omega | exact zX | fail)) only [get_set, get_push, next_push, next_set, if_pos', if_neg', if_true, if_false, reduceIte], by simp (disch := (first | omega | exact zX | fail)) only [get_set, get_push, next_push, next_set, if_pos', if_neg', if_true, if_false, reduceIte], ?_⟩
          rw [hx0]
          rw [show c ++ blanks 0 = c from List.append_nil c]
          first
          | exact .inl ⟨by rw [hc0]; rfl, hx.symm⟩
          | exact .inr ⟨_, 0, by rw [ces_len], by omega, by (first | omega | (simp only [next_push, next_set, next_empty]; done) | (simp only [next_push, next_set, next_empty]; omega)), by simp (disch := (first | omega | exact zX | fail)) only [get_set, get_push, next_push, next_set, if_pos', if_neg', if_true, if_false, reduceIte]⟩
          | exact .inr ⟨_, 0, by rw [ces_len, hcl2], by omega, by (first | omega | (simp only [next_push, next_set, next_empty]; done) | (simp only [next_push, next_set, next_empty]; omega)), by rw [hc0]; simp (disch := (first | omega | exact zX | fail)) only [get_set, get_push, next_push, next_set, if_pos', if_neg', if_true, if_false, reduceIte]⟩
          | trace_state
        · rintro k xs H2 ⟨i, x, rfl, hi, hn2, g0, g1, ho⟩
          have hln : (c ++ blanks i).length = c.length + i := by rw [List.length_append, blanks_len]
          obtain ⟨x', H3, tr3, happ, ho', hnx, hfr⟩ := ho.add1 EA lo' app_cell (by omega) hn2 (by rw [ces_len, hln]; unfold roomMax; omega) [.v (.int .i32 32), .v (.int .i64 1), .v (.int .i64 0)]
          have k0 : H3.get H'.next = some (rblk x wr) := by rw [hfr _ (by omega)]; exact g0
          have k1 : H3.get (H'.next + 1) = some zblk := by rw [hfr _ (by omega)]; exact g1
          have hc := ho.cells
          have hc' := ho'.cells
          have hlx := len_cell lo' ho.slh
          rw [hln] at hlx
          repeat' (first
           | refine zka ?_
           | refine zkb ?_
           | (apply RKp.op; ((try simp (disch := (first | omega | exact zX | exact zO | fail)) only [happ, g0, g1, k0, k1, hc, hc', hlx, go_sem, Nat.reduceDiv, Nat.reduceMod, Nat.reduceAdd, Nat.reduceSub, Nat.reduceEqDiff, Nat.reduceLeDiff, Nat.reduceLT, Nat.reduceMul, reduceIte, Nat.reducePow, Int.reduceEq]); exact zL); rfl)
           | (apply RKp.call; (apply Blank_run <;> (exact zD)); rfl)
           | refine zkc ?_
           | apply RKg.tt
           | apply RKg.ff
           | refine zkd ?_
           | refine zke ?_
           | refine zkf ?_
           | (refine RKg.split (fun h => ?_) (fun h => ?_) <;> (try rw [h]) <;> (replace h := zB h) <;> (try (exfalso; first | exact h | omega)))
           | apply RK.nil
           | apply V.sq
           | apply V.bl
           | apply V.sc
           | apply V.skip
           | apply V.label
           | apply V.ret
           | apply V.exit
           | apply SeqQ.normal
           | apply SeqQ.ret
           | apply SeqQ.exit
           | apply BlockQ.normal
           | apply BlockQ.ret
           | apply BlockQ.here
           | refine zbt ?_
           | apply LoopS.ret
           | apply LoopS.exit
           | apply LoopF.ret
           | apply LoopF.exit
           | apply V.regK
            | refine zva ?_
           | refine zvb ?_
           | refine zgc ?_
           | refine zvd ?_
           | refine zve ?_
           | (refine zvf (fun h => ?_) (fun h => ?_) <;> (replace h := zB h) <;> (try (exfalso; first | exact h | omega)))
            | (refine FnQ.retB (resc Try.results53) (by simp (disch := (first | omega | exact zX | exact zO | fail)) only [cellR_op, happ, g0, g1, k0, k1, hc, hc', hlx, go_sem, Nat.reduceDiv, Nat.reduceMod, Nat.reduceAdd, Nat.reduceSub, Nat.reduceEqDiff, Nat.reduceLeDiff, Nat.reduceLT, Nat.reduceMul, reduceIte, Nat.reducePow, Int.reduceEq]; rfl) ?_; (try dsimp only)))
          · refine LoopS.again (w.toNat - (c.length + (i + 1))) (by rfl) (by omega) ⟨i + 1, x', rfl, by omega, by (first | omega | (simp only [next_push, next_set, next_empty]; done) | (simp only [next_push, next_set, next_empty]; omega)), by simp (disch := (first | omega | exact zX | fail)) only [get_set, get_push, next_push, next_set, if_pos', if_neg', if_true, if_false, reduceIte], by rw [get_set, if_neg (by omega)]; exact k1, ?_⟩
            have e9 : cesA (c ++ blanks i) ++ [[.v (.int .i32 32), .v (.int .i64 1), .v (.int .i64 0)]] = cesA (c ++ blanks (i + 1)) := by
              have := blanks_succ i
              simp only [cesA, List.map_append] at this ⊢
              rw [List.append_assoc, this]
            rw [e9] at ho'
            exact ho'.set (by omega) _
          · have ei : i = w.toNat - c.length := by omega
            have ho2 := ho.set (m := H'.next + 1) (by omega) (rblk x wr)
            rw [← ei]
            obtain ⟨y, hy1, hy2⟩ : ∃ y, frzC (H2.set (H'.next + 1) (rblk x wr)) lo' x = y ∧ Sl 3 y (cesA (c ++ blanks i)) := by
              rcases ho2 with ⟨h1, rfl | rfl⟩ | ⟨n, e, rfl, h1, h2, h3⟩
              · exact ⟨_, frzC_e0 _ _, .inr ⟨h1, .inl rfl⟩⟩
              · exact ⟨_, frzC_v _ _ _, .inr ⟨h1, .inr rfl⟩⟩
              · exact ⟨_, osC_frz2 (by omega) h3 (by rw [ces_len]), .inl rfl⟩
            rw [frzR_agg, List.map_cons, List.map_cons, List.map_nil, frzC_v, hy1, Sl_ne hy2 (ces_ne (fun e => by rw [e] at hln; simp at hln; omega))]
      · rw [if_neg (fun z => h z.2)]
        obtain ⟨c, hc0⟩ : ∃ c : List Ce, c = t := ⟨_, rfl⟩
        rw [← hc0]
        have hcl2 : c.length = t.length := by rw [hc0]
        obtain ⟨x0, hx0⟩ : ∃ x0 : AV, x0 = .os (H'.next + 1 + 1) 0 0 c.length := ⟨_, rfl⟩
        apply V.lpS [42, 43, 44, 45, 46, 47, 48, 49, 50, 51, 52] (fun k xs H2 => ∃ (i : Nat) (x : AV), k = w.toNat - (c.length + i) ∧ c.length + i ≤ w.toNat ∧ H'.next + 2 ≤ H2.next ∧ H2.get H'.next = some (rblk x wr) ∧ H2.get (H'.next + 1) = some zblk ∧ OwS H2 (H'.next + 2) 47 3 x (cesA (c ++ blanks i))) (w.toNat - c.length)
        focus (intro xs; simp only [putMany, set2, Nat.reduceAdd, Nat.reduceDiv, Nat.reduceMod, nth_zero, nth_succ, List.set_cons_zero, List.set_cons_succ]; rfl)
        focus (first | rfl | simp only [readMany, nth_zero, nth_succ, Nat.reduceDiv, Nat.reduceMod])
        · refine ⟨0, x0, rfl, by omega, by (first | omega | (simp only [next_push, next_set, next_empty]; done) | (simp only [next_push, next_set, next_empty]; omega)), by rw [hx0]; simp (disch := (first | omega | exact zX | fail)) only [get_set, get_push, next_push, next_set, if_pos', if_neg', if_true, if_false, reduceIte], by simp (disch := (first | omega | exact zX | fail)) only [get_set, get_push, next_push, next_set, if_pos', if_neg', if_true, if_false, reduceIte], ?_⟩
          rw [hx0]
          rw [show c ++ blanks 0 = c from List.append_nil c]
          first
          | exact .inl ⟨by rw [hc0]; rfl, hx.symm⟩
          | exact .inr ⟨_, 0, by rw [ces_len], by omega, by (first | omega | (simp only [next_push, next_set, next_empty]; done) | (simp only [next_push, next_set, next_empty]; omega)), by simp (disch := (first | omega | exact zX | fail)) only [get_set, get_push, next_push, next_set, if_pos', if_neg', if_true, if_false, reduceIte]⟩
          | exact .inr ⟨_, 0, by rw [ces_len, hcl2], by omega, by (first | omega | (simp only [next_push, next_set, next_empty]; done) | (simp only [next_push, next_set, next_empty]; omega)), by rw [hc0]; simp (disch := (first | omega | exact zX | fail)) only [get_set, get_push, next_push, next_set, if_pos', if_neg', if_true, if_false, reduceIte]⟩
          | trace_state
        · rintro k xs H2 ⟨i, x, rfl, hi, hn2, g0, g1, ho⟩
          have hln : (c ++ blanks i).length = c.length + i := by rw [List.length_append, blanks_len]
          obtain ⟨x', H3, tr3, happ, ho', hnx, hfr⟩ := ho.add1 EA lo' app_cell (by omega) hn2 (by rw [ces_len, hln]; unfold roomMax; omega) [.v (.int .i32 32), .v (.int .i64 1), .v (.int .i64 0)]
          have k0 : H3.get H'.next = some (rblk x wr) := by rw [hfr _ (by omega)]; exact g0
          have k1 : H3.get (H'.next + 1) = some zblk := by rw [hfr _ (by omega)]; exact g1
          have hc := ho.cells
          have hc' := ho'.cells
          have hlx := len_cell lo' ho.slh
          rw [hln] at hlx
          repeat' (first
           | refine zka ?_
           | refine zkb ?_
           | (apply RKp.op; ((try simp (disch := (first | omega | exact zX | exact zO | fail)) only [happ, g0, g1, k0, k1, hc, hc', hlx, go_sem, Nat.reduceDiv, Nat.reduceMod, Nat.reduceAdd, Nat.reduceSub, Nat.reduceEqDiff, Nat.reduceLeDiff, Nat.reduceLT, Nat.reduceMul, reduceIte, Nat.reducePow, Int.reduceEq]); exact zL); rfl)
           | (apply RKp.call; (apply Blank_run <;> (exact zD)); rfl)
           | refine zkc ?_
           | apply RKg.tt
           | apply RKg.ff
           | refine zkd ?_
           | refine zke ?_
           | refine zkf ?_
           | (refine RKg.split (fun h => ?_) (fun h => ?_) <;> (try rw [h]) <;> (replace h := zB h) <;> (try (exfalso; first | exact h | omega)))
           | apply RK.nil
           | apply V.sq
           | apply V.bl
           | apply V.sc
           | apply V.skip
           | apply V.label
           | apply V.ret
           | apply V.exit
           | apply SeqQ.normal
           | apply SeqQ.ret
           | apply SeqQ.exit
           | apply BlockQ.normal
           | apply BlockQ.ret
           | apply BlockQ.here
           | refine zbt ?_
           | apply LoopS.ret
           | apply LoopS.exit
           | apply LoopF.ret
           | apply LoopF.exit
           | apply V.regK
            | refine zva ?_
           | refine zvb ?_
           | refine zgc ?_
           | refine zvd ?_
           | refine zve ?_
           | (refine zvf (fun h => ?_) (fun h => ?_) <;> (replace h := zB h) <;> (try (exfalso; first | exact h | omega)))
            | (refine FnQ.retB (resc Try.results53) (by simp (disch := (first | omega | exact zX | exact zO | fail)) only [cellR_op, happ, g0, g1, k0, k1, hc, hc', hlx, go_sem, Nat.reduceDiv, Nat.reduceMod, Nat.reduceAdd, Nat.reduceSub, Nat.reduceEqDiff, Nat.reduceLeDiff, Nat.reduceLT, Nat.reduceMul, reduceIte, Nat.reducePow, Int.reduceEq]; rfl) ?_; (try dsimp only)))
          · refine LoopS.again (w.toNat - (c.length + (i + 1))) (by rfl) (by omega) ⟨i + 1, x', rfl, by omega, by (first | omega | (simp only [next_push, next_set, next_empty]; done) | (simp only [next_push, next_set, next_empty]; omega)), by simp (disch := (first | omega | exact zX | fail)) only [get_set, get_push, next_push, next_set, if_pos', if_neg', if_true, if_false, reduceIte], by rw [get_set, if_neg (by omega)]; exact k1, ?_⟩
            have e9 : cesA (c ++ blanks i) ++ [[.v (.int .i32 32), .v (.int .i64 1), .v (.int .i64 0)]] = cesA (c ++ blanks (i + 1)) := by
              have := blanks_succ i
              simp only [cesA, List.map_append] at this ⊢
              rw [List.append_assoc, this]
            rw [e9] at ho'
            exact ho'.set (by omega) _
          · have ei : i = w.toNat - c.length := by omega
            have ho2 := ho.set (m := H'.next + 1) (by omega) (rblk x wr)
            rw [← ei]
            obtain ⟨y, hy1, hy2⟩ : ∃ y, frzC (H2.set (H'.next + 1) (rblk x wr)) lo' x = y ∧ Sl 3 y (cesA (c ++ blanks i)) := by
              rcases ho2 with ⟨h1, rfl | rfl⟩ | ⟨n, e, rfl, h1, h2, h3⟩
              · exact ⟨_, frzC_e0 _ _, .inr ⟨h1, .inl rfl⟩⟩
              · exact ⟨_, frzC_v _ _ _, .inr ⟨h1, .inr rfl⟩⟩
              · exact ⟨_, osC_frz2 (by omega) h3 (by rw [ces_len]), .inl rfl⟩
            rw [frzR_agg, List.map_cons, List.map_cons, List.map_nil, frzC_v, hy1, Sl_ne hy2 (ces_ne (fun e => by rw [e] at hln; simp at hln; omega))]
  · have d1 : decide (rowG l) = false := decide_eq_false hG
    rw [if_neg hG]
    refine zvin Try.func53 Try.ntmps53 ?_
    repeat' (first
     | refine zka ?_
     | refine zkb ?_
     | (apply RKp.op; ((try simp (disch := (first | omega | exact zX | exact zO | fail)) only [d1, go_sem, Nat.reduceDiv, Nat.reduceMod, Nat.reduceAdd, Nat.reduceSub, Nat.reduceEqDiff, Nat.reduceLeDiff, Nat.reduceLT, Nat.reduceMul, reduceIte, Nat.reducePow, Int.reduceEq]); exact zL); rfl)
     | (apply RKp.callR; ((first | apply hMay | apply hBl) <;> (exact zD)); rfl; intro tr htr)
     | refine zkc ?_
     | apply RKg.tt
     | apply RKg.ff
     | refine zkd ?_
     | refine zke ?_
     | refine zkf ?_
     | (refine RKg.split (fun h => ?_) (fun h => ?_) <;> (try rw [h]) <;> (replace h := zB h) <;> (try (exfalso; first | exact h | omega)))
     | apply RK.nil
     | apply V.sq
     | apply V.bl
     | apply V.sc
     | apply V.skip
     | apply V.label
     | apply V.ret
     | apply V.exit
     | apply SeqQ.normal
     | apply SeqQ.ret
     | apply SeqQ.exit
     | apply BlockQ.normal
     | apply BlockQ.ret
     | apply BlockQ.here
     | refine zbt ?_
     | apply LoopS.ret
     | apply LoopS.exit
     | apply LoopF.ret
     | apply LoopF.exit
     | apply V.regK
      | refine zva ?_
     | refine zvb ?_
     | refine zgc ?_
     | refine zvd ?_
     | refine zve ?_
     | (refine zvf (fun h => ?_) (fun h => ?_) <;> (replace h := zB h) <;> (try (exfalso; first | exact h | omega)))
      | (refine FnQ.retB (resc Try.results53) (by simp (disch := (first | omega | exact zX | exact zO | fail)) only [cellR_op, d1, go_sem, Nat.reduceDiv, Nat.reduceMod, Nat.reduceAdd, Nat.reduceSub, Nat.reduceEqDiff, Nat.reduceLeDiff, Nat.reduceLT, Nat.reduceMul, reduceIte, Nat.reducePow, Int.reduceEq]; rfl) ?_; (try dsimp only)))
    rfl
end
end Go.Am
