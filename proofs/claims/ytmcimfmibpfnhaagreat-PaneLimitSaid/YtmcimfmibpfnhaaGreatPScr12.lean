/- Parts of the proof: PScr11 PScr12. -/
import Derived.Test.YtmcimfmibpfnhaaGreatPScr3
set_option linter.all false
set_option linter.deprecated false

namespace Go.Am
variable {oc : Orc} [OrcI oc] [OrcF oc]
open Go.Proofs
set_option maxRecDepth 8000
set_option maxHeartbeats 4000000

/-- Cells cut, a half at the edge a blank, filled up. -/
def cutL (w : Nat) (l : List Ce) : List Ce := if (l.take w).length > 0 ∧ ((l.take w).getD ((l.take w).length - 1) zeroC).w = 2 then (l.take w).set ((l.take w).length - 1) blankC else l.take w
def fitL (w : Nat) (l : List Ce) : List Ce := cutL w l ++ blanks (w - (cutL w l).length)
def fitR (w : Int) (r : Rw) : Rw := if rowG r.1 then (fitL w.toNat r.1, r.2) else (blanks w.toNat, false)
section
variable {ys : List (Nat × LRec)} {lo : Nat} {H : AHeap} {A B : AV} {l : List Ce} {wr : Bool}
theorem May_big (hA : Sl 3 A (cesA l)) (hl : l.length < 2 ^ 63) : CallRo (ELo oc) ys lo 106 [.agg [A, .v (.bool wr)]] H (.v (.bool (decide (rowG l)))) := by
  by_cases h300 : l.length ≤ 300
  · exact May_R (.inl hA) (by omega)
  · refine WC.pureR rfl fun lo' H' hh => ?_
    have hA' : SlH H' 3 A (cesA l) := .inl hA
    refine zvin Tryz.func106 Tryz.ntmps106 ?_
    repeat' (first | refine zka ?_ | refine zkb ?_ | (apply RKp.op; ((try simp (disch := (first | exact zQ | fail)) only [len_cellX lo' hA', go_sem]); exact zL); rfl) | refine zkc ?_ | refine zz ?_ | refine zkd ?_ | refine zke ?_ | refine zkf ?_ | (refine RKg.split (fun h => ?_) (fun h => ?_) <;> (try rw [h]) <;> (replace h := zB h) <;> (try (exfalso; first | exact h | omega))) | refine zbt ?_ | apply V.regK | refine zva ?_ | refine zvb ?_ | refine zgc ?_ | refine zvd ?_ | refine zve ?_ | (refine zvf (fun h => ?_) (fun h => ?_) <;> (replace h := zB h) <;> (try (exfalso; first | exact h | omega))) | (refine zfc Tryz.results106 ?_; (try dsimp only)))
    rw [frzR_v, decide_eq_false (fun h => h300 h.1)]
theorem fit_run (hA : Sl 3 A (cesA l)) (hl : l.length < 2 ^ 63) (w : Int) (w2 : 2 ≤ w) (w3 : w ≤ 300) : CallRo (ELo oc) ys lo 132 [.agg [A, .v (.bool wr)], .v (.int .i64 w)] H (.agg [.sl 3 (cesA (fitR w (l, wr)).1), .v (.bool (fitR w (l, wr)).2)]) := by
  refine WC.pureR rfl fun lo' H' hh => ?_
  have hlo := lo_two hh
  have hA' : SlH H' 3 A (cesA l) := .inl hA
  have hBl := fun ys G => Blank_D (ys := ys) (lo := lo') (H := G) w (by omega) w3
  have hMay := fun ys G => May_big (ys := ys) (lo := lo') (H := G) (wr := wr) hA hl
  unfold fitR
  by_cases hG : rowG l
  · have d1 : decide (rowG l) = true := decide_eq_true hG
    rw [if_pos hG]
    dsimp only
    have hl3 := hG.1
    have hk : (min (l.length : Int) w).toNat = min w.toNat l.length := by omega
    have hcut : SlH H' 3 (cutA A 0 (min w.toNat l.length)) (cesA (l.take w.toNat)) := by
      have := cut_hi hA' (min w.toNat l.length) (by omega)
      rw [show l.take (min w.toNat l.length) = l.take w.toNat by rw [List.take_eq_take_iff]; omega] at this
      exact this
    have hlen0 : (l.take w.toNat).length = min w.toNat l.length := List.length_take
    have hcl := fun ys G (x : Ext H' G) => Clone_E (ys := ys) (lo := lo') (hcut.ext x) (by omega)
    have hcB := cells_SlH hA'
    refine zvin Tryz.func132 Tryz.ntmps132 ?_
    repeat' (first | refine zka ?_ | refine zkb ?_ | (apply RKp.op; ((try simp (disch := (first | exact zQ | fail)) only [len_cellX lo' hA', ix_cellX lo' hA', ld_cellX lo' hA', fa_cellX lo' hA', lf_wX lo' hA', lf_aX lo' hA', lf_rX lo' hA', sl_hiX lo' hA', sl_loX lo' hA', sl_lohiX lo' hA', d1, hk, hcB, go_sem]); exact zL); rfl) | (apply RKp.callR; (apply hMay <;> (exact zD)); rfl; intro tr htr) | (apply RKp.callE; (apply hcl <;> (exact zD)); (intro x; rfl)) | refine zkc ?_ | refine zz ?_ | refine zkd ?_ | refine zke ?_ | refine zkf ?_ | (refine RKg.split (fun h => ?_) (fun h => ?_) <;> (try rw [h]) <;> (replace h := zB h) <;> (try (exfalso; first | exact h | omega))) | refine zbt ?_ | apply V.regK | refine zva ?_ | refine zvb ?_ | refine zgc ?_ | refine zvd ?_ | refine zve ?_ | (refine zvf (fun h => ?_) (fun h => ?_) <;> (replace h := zB h) <;> (try (exfalso; first | exact h | omega))) | (refine FnQ.retB (resc Tryz.results132) (by simp (disch := (first | exact zQ | fail)) only [cellR_op, len_cellX lo' hA', ix_cellX lo' hA', ld_cellX lo' hA', fa_cellX lo' hA', lf_wX lo' hA', lf_aX lo' hA', lf_rX lo' hA', sl_hiX lo' hA', sl_loX lo' hA', sl_lohiX lo' hA', d1, hk, hcB, go_sem]; rfl) ?_; (try dsimp only)))
    rintro x H2 tr (⟨e0, hx, rfl⟩ | ⟨ne, rfl, rfl⟩)
    · have hx1 : cellsOf x = some [x] := by rcases hx with rfl | rfl <;> rfl
      have hxl : ∀ G, primL lo' G (builtinA (ELo oc) .len #[41] 3 [x]) = some (.v (.int .i64 0), G, ⟨0, 0, 0⟩) := fun G => by rcases hx with rfl | rfl <;> rfl
      repeat' (first | refine zka ?_ | refine zkb ?_ | (apply RKp.op; ((try simp (disch := (first | exact zQ | fail)) only [hx1, hxl, go_sem]); exact zL); rfl) | refine zkc ?_ | refine zz ?_ | refine zkd ?_ | refine zke ?_ | refine zkf ?_ | (refine RKg.split (fun h => ?_) (fun h => ?_) <;> (try rw [h]) <;> (replace h := zB h) <;> (try (exfalso; first | exact h | omega))) | refine zbt ?_ | apply V.regK | refine zva ?_ | refine zvb ?_ | refine zgc ?_ | refine zvd ?_ | refine zve ?_ | (refine zvf (fun h => ?_) (fun h => ?_) <;> (replace h := zB h) <;> (try (exfalso; first | exact h | omega))) | (refine FnQ.retB (resc Tryz.results132) (by simp (disch := (first | exact zQ | fail)) only [cellR_op, hx1, hxl, go_sem]; rfl) ?_; (try dsimp only)))
      have hcu : cutL w.toNat l = [] := by
        unfold cutL; rw [e0]; rfl
      unfold fitL
      rw [hcu]
      obtain ⟨c, hc0⟩ : ∃ c : List Ce, c = [] := ⟨_, rfl⟩
      rw [← hc0]
      have hcl2 : c.length = 0 := by rw [hc0]; rfl
      obtain ⟨x0, hx0⟩ : ∃ x0 : AV, x0 = x := ⟨_, rfl⟩
      apply V.lpS [42, 43, 44, 45, 46, 47, 48, 49, 50, 51, 52] (fun k xs H2 => ∃ (i : Nat) (x : AV), k = w.toNat - (c.length + i) ∧ c.length + i ≤ w.toNat ∧ H'.next + 2 ≤ H2.next ∧ H2.get H'.next = some (rblk x wr) ∧ H2.get (H'.next + 1) = some zblk ∧ OwS H2 (H'.next + 2) 52 3 x (cesA (c ++ blanks i))) (w.toNat - c.length)
      focus (intro xs; simp only [putMany, set2, Nat.reduceAdd, Nat.reduceDiv, Nat.reduceMod, nth_zero, nth_succ, List.set_cons_zero, List.set_cons_succ]; rfl)
      focus (first | rfl | simp only [readMany, nth_zero, nth_succ, Nat.reduceDiv, Nat.reduceMod])
      · refine ⟨0, x0, rfl, by omega, by (first | omega | (simp only [next_push, next_set, next_empty]; done) | (simp only [next_push, next_set, next_empty]; omega)), by rw [hx0]; simp (disch := (first | omega | exact zX | fail)) only [get_set, get_push, next_push, next_set, if_pos', if_neg', if_true, if_false, reduceIte], by simp (disch := (first | omega | exact zX | fail)) only [get_set, get_push, next_push, next_set, if_pos', if_neg', if_true, if_false, reduceIte], ?_⟩
        rw [hx0]
        rw [show c ++ blanks 0 = c from List.append_nil c]
        first
        | exact .inl ⟨by rw [hc0]; rfl, hx.symm⟩
        | exact .inr ⟨_, 0, by rw [ces_len], by omega, by (first | omega | (simp only [next_push, next_set, next_empty]; done) | (simp only [next_push, next_set, next_empty]; omega)), by simp (disch := (first | omega | exact zX | fail)) only [get_set, get_push, next_push, next_set, if_pos', if_neg', if_true, if_false, reduceIte]⟩
        | exact .inr ⟨_, 0, by rw [ces_len, hcl2], by omega, by (first | omega | (simp only [next_push, next_set, next_empty]; done) | (simp only [next_push, next_set, next_empty]; omega)), by rw [hc0]; simp (disch := (first | omega | exact zX | fail)) only [get_set, get_push, next_push, next_set, if_pos', if_neg', if_true, if_false, reduceIte]⟩
        | trace_state
      · rintro k xs H2 ⟨i, x, rfl, hi, hn2, g0, g1, ho⟩
        have hln : (c ++ blanks i).length = c.length + i := by rw [List.length_append, blanks_len]
        obtain ⟨x', H3, tr3, happ, ho', hnx, hfr⟩ := ho.add1 (ELo oc) lo' app_cell (by omega) hn2 (by rw [ces_len, hln]; unfold roomMax; omega) [.v (.int .i32 32), .v (.int .i64 1), .v (.int .i64 0)]
        have k0 : H3.get H'.next = some (rblk x wr) := by rw [hfr _ (by omega)]; exact g0
        have k1 : H3.get (H'.next + 1) = some zblk := by rw [hfr _ (by omega)]; exact g1
        have hc := ho.cells
        have hc' := ho'.cells
        have hlx := len_cell lo' ho.slh
        rw [hln] at hlx
        repeat' (first | refine zka ?_ | refine zkb ?_ | (apply RKp.op; ((try simp (disch := (first | exact zQ | fail)) only [happ, g0, g1, k0, k1, hc, hc', hlx, go_sem]); exact zL); rfl) | (apply RKp.call; (apply Blank_run <;> (exact zD)); rfl) | refine zkc ?_ | refine zz ?_ | refine zkd ?_ | refine zke ?_ | refine zkf ?_ | (refine RKg.split (fun h => ?_) (fun h => ?_) <;> (try rw [h]) <;> (replace h := zB h) <;> (try (exfalso; first | exact h | omega))) | refine zbt ?_ | apply V.regK | refine zva ?_ | refine zvb ?_ | refine zgc ?_ | refine zvd ?_ | refine zve ?_ | (refine zvf (fun h => ?_) (fun h => ?_) <;> (replace h := zB h) <;> (try (exfalso; first | exact h | omega))) | (refine FnQ.retB (resc Tryz.results132) (by simp (disch := (first | exact zQ | fail)) only [cellR_op, happ, g0, g1, k0, k1, hc, hc', hlx, go_sem]; rfl) ?_; (try dsimp only)))
        · refine LoopS.again (w.toNat - (c.length + (i + 1))) (by rfl) (by omega) ⟨i + 1, x', rfl, by omega, by (first | omega | (simp only [next_push, next_set, next_empty]; done) | (simp only [next_push, next_set, next_empty]; omega)), by simp (disch := (first | omega | exact zX | fail)) only [get_set, get_push, next_push, next_set, if_pos', if_neg', if_true, if_false, reduceIte], by rw [get_set, if_neg (by omega)]; exact k1, ?_⟩
          have e9 : cesA (c ++ blanks i) ++ [[.v (.int .i32 32), .v (.int .i64 1), .v (.int .i64 0)]] = cesA (c ++ blanks (i + 1)) := by
            have := blanks_succ i
            simp only [cesA, List.map_append] at this ⊢
            rw [List.append_assoc, this]
          rw [e9] at ho'
          exact ho'.set (by omega) _
        · have ei : i = w.toNat - c.length := by omega
          have ho2 := ho.set (m := H'.next + 1) (by omega) (rblk x wr)
          rw [← ei]
          obtain ⟨y, hy1, hy2⟩ : ∃ y, frzC (H2.set (H'.next + 1) (rblk x wr)) lo' x = y ∧ Sl 3 y (cesA (c ++ blanks i)) := by
            rcases ho2 with ⟨h1, rfl | rfl⟩ | ⟨n, e, rfl, h1, h2, h3⟩
            · exact ⟨_, frzC_e0 _ _, .inr ⟨h1, .inl rfl⟩⟩
            · exact ⟨_, frzC_v _ _ _, .inr ⟨h1, .inr rfl⟩⟩
            · exact ⟨_, osC_frz2 (by omega) h3 (by rw [ces_len]), .inl rfl⟩
          rw [frzR_agg, List.map_cons, List.map_cons, List.map_nil, frzC_v, hy1, Sl_ne hy2 (ces_ne (fun e => by rw [e] at hln; simp at hln; omega))]
    · have hfit : fitL w.toNat l = cutL w.toNat l ++ blanks (w.toNat - (cutL w.toNat l).length) := rfl
      rw [hfit]
      unfold cutL
      generalize l.take w.toNat = t at *
      have e1 : (List.take t.length (cesA t)).length = t.length := by simp
      have tp : 0 < t.length := List.length_pos_iff.2 ne
      have e2 : ((t.length : Int) - 1).toNat = t.length - 1 := by omega
      have e3 : List.take t.length (cesA t) = cesA t := by rw [List.take_of_length_le (by simp)]
      repeat' (first | refine zka ?_ | refine zkb ?_ | (apply RKp.op; ((try simp (disch := (first | exact zQ | fail)) only [len_cellX lo' hA', ix_cellX lo' hA', ld_cellX lo' hA', fa_cellX lo' hA', lf_wX lo' hA', lf_aX lo' hA', lf_rX lo' hA', sl_hiX lo' hA', sl_loX lo' hA', sl_lohiX lo' hA', ces_len, e1, e2, e3, nth_cesA, ces_set, hz3, drop3, go_sem]); exact zL); rfl) | (apply RKp.call; (apply Blank_run <;> (exact zD)); rfl) | refine zkc ?_ | refine zz ?_ | refine zkd ?_ | refine zke ?_ | refine zkf ?_ | (refine RKg.split (fun h => ?_) (fun h => ?_) <;> (try rw [h]) <;> (replace h := zB h) <;> (try (exfalso; first | exact h | omega))) | refine zbt ?_ | apply V.regK | refine zva ?_ | refine zvb ?_ | refine zgc ?_ | refine zvd ?_ | refine zve ?_ | (refine zvf (fun h => ?_) (fun h => ?_) <;> (replace h := zB h) <;> (try (exfalso; first | exact h | omega))) | (refine FnQ.retB (resc Tryz.results132) (by simp (disch := (first | exact zQ | fail)) only [cellR_op, len_cellX lo' hA', ix_cellX lo' hA', ld_cellX lo' hA', fa_cellX lo' hA', lf_wX lo' hA', lf_aX lo' hA', lf_rX lo' hA', sl_hiX lo' hA', sl_loX lo' hA', sl_lohiX lo' hA', ces_len, e1, e2, e3, nth_cesA, ces_set, hz3, drop3, go_sem]; rfl) ?_; (try dsimp only)))
      · rw [if_pos ⟨tp, h⟩]
        obtain ⟨c, hc0⟩ : ∃ c : List Ce, c = t.set (t.length - 1) blankC := ⟨_, rfl⟩
        rw [← hc0]
        have hcl2 : c.length = t.length := by rw [hc0, List.length_set]
        obtain ⟨x0, hx0⟩ : ∃ x0 : AV, x0 = .os (H'.next + 1 + 1) 0 0 t.length := ⟨_, rfl⟩
        apply V.lpS [42, 43, 44, 45, 46, 47, 48, 49, 50, 51, 52] (fun k xs H2 => ∃ (i : Nat) (x : AV), k = w.toNat - (c.length + i) ∧ c.length + i ≤ w.toNat ∧ H'.next + 2 ≤ H2.next ∧ H2.get H'.next = some (rblk x wr) ∧ H2.get (H'.next + 1) = some zblk ∧ OwS H2 (H'.next + 2) 52 3 x (cesA (c ++ blanks i))) (w.toNat - c.length)
        focus (intro xs; simp only [putMany, set2, Nat.reduceAdd, Nat.reduceDiv, Nat.reduceMod, nth_zero, nth_succ, List.set_cons_zero, List.set_cons_succ]; rfl)
        focus (first | rfl | simp only [readMany, nth_zero, nth_succ, Nat.reduceDiv, Nat.reduceMod])
        · refine ⟨0, x0, rfl, by omega, by (first | omega | (simp only [next_push, next_set, next_empty]; done) | (simp only [next_push, next_set, next_empty]; omega)), by rw [hx0]; simp (disch := (first | omega | exact zX | fail)) only [get_set, get_push, next_push, next_set, if_pos', if_neg', if_true, if_false, reduceIte], by simp (disch := (first | omega | exact zX | fail)) only [get_set, get_push, next_push, next_set, if_pos', if_neg', if_true, if_false, reduceIte], ?_⟩
          rw [hx0]
          rw [show c ++ blanks 0 = c from List.append_nil c]
          first
          | exact .inl ⟨by rw [hc0]; rfl, hx.symm⟩
          | exact .inr ⟨_, 0, by rw [ces_len], by omega, by (first | omega | (simp only [next_push, next_set, next_empty]; done) | (simp only [next_push, next_set, next_empty]; omega)), by simp (disch := (first | omega | exact zX | fail)) only [get_set, get_push, next_push, next_set, if_pos', if_neg', if_true, if_false, reduceIte]⟩
          | exact .inr ⟨_, 0, by rw [ces_len, hcl2], by omega, by (first | omega | (simp only [next_push, next_set, next_empty]; done) | (simp only [next_push, next_set, next_empty]; omega)), by rw [hc0]; simp (disch := (first | omega | exact zX | fail)) only [get_set, get_push, next_push, next_set, if_pos', if_neg', if_true, if_false, reduceIte]⟩
          | trace_state
        · rintro k xs H2 ⟨i, x, rfl, hi, hn2, g0, g1, ho⟩
          have hln : (c ++ blanks i).length = c.length + i := by rw [List.length_append, blanks_len]
          obtain ⟨x', H3, tr3, happ, ho', hnx, hfr⟩ := ho.add1 (ELo oc) lo' app_cell (by omega) hn2 (by rw [ces_len, hln]; unfold roomMax; omega) [.v (.int .i32 32), .v (.int .i64 1), .v (.int .i64 0)]
          have k0 : H3.get H'.next = some (rblk x wr) := by rw [hfr _ (by omega)]; exact g0
          have k1 : H3.get (H'.next + 1) = some zblk := by rw [hfr _ (by omega)]; exact g1
          have hc := ho.cells
          have hc' := ho'.cells
          have hlx := len_cell lo' ho.slh
          rw [hln] at hlx
          repeat' (first | refine zka ?_ | refine zkb ?_ | (apply RKp.op; ((try simp (disch := (first | exact zQ | fail)) only [happ, g0, g1, k0, k1, hc, hc', hlx, go_sem]); exact zL); rfl) | (apply RKp.call; (apply Blank_run <;> (exact zD)); rfl) | refine zkc ?_ | refine zz ?_ | refine zkd ?_ | refine zke ?_ | refine zkf ?_ | (refine RKg.split (fun h => ?_) (fun h => ?_) <;> (try rw [h]) <;> (replace h := zB h) <;> (try (exfalso; first | exact h | omega))) | refine zbt ?_ | apply V.regK | refine zva ?_ | refine zvb ?_ | refine zgc ?_ | refine zvd ?_ | refine zve ?_ | (refine zvf (fun h => ?_) (fun h => ?_) <;> (replace h := zB h) <;> (try (exfalso; first | exact h | omega))) | (refine FnQ.retB (resc Tryz.results132) (by simp (disch := (first | exact zQ | fail)) only [cellR_op, happ, g0, g1, k0, k1, hc, hc', hlx, go_sem]; rfl) ?_; (try dsimp only)))
          · refine LoopS.again (w.toNat - (c.length + (i + 1))) (by rfl) (by omega) ⟨i + 1, x', rfl, by omega, by (first | omega | (simp only [next_push, next_set, next_empty]; done) | (simp only [next_push, next_set, next_empty]; omega)), by simp (disch := (first | omega | exact zX | fail)) only [get_set, get_push, next_push, next_set, if_pos', if_neg', if_true, if_false, reduceIte], by rw [get_set, if_neg (by omega)]; exact k1, ?_⟩
            have e9 : cesA (c ++ blanks i) ++ [[.v (.int .i32 32), .v (.int .i64 1), .v (.int .i64 0)]] = cesA (c ++ blanks (i + 1)) := by
              have := blanks_succ i
              simp only [cesA, List.map_append] at this ⊢
              rw [List.append_assoc, this]
            rw [e9] at ho'
            exact ho'.set (by omega) _
          · have ei : i = w.toNat - c.length := by omega
            have ho2 := ho.set (m := H'.next + 1) (by omega) (rblk x wr)
            rw [← ei]
            obtain ⟨y, hy1, hy2⟩ : ∃ y, frzC (H2.set (H'.next + 1) (rblk x wr)) lo' x = y ∧ Sl 3 y (cesA (c ++ blanks i)) := by
              rcases ho2 with ⟨h1, rfl | rfl⟩ | ⟨n, e, rfl, h1, h2, h3⟩
              · exact ⟨_, frzC_e0 _ _, .inr ⟨h1, .inl rfl⟩⟩
              · exact ⟨_, frzC_v _ _ _, .inr ⟨h1, .inr rfl⟩⟩
              · exact ⟨_, osC_frz2 (by omega) h3 (by rw [ces_len]), .inl rfl⟩
            rw [frzR_agg, List.map_cons, List.map_cons, List.map_nil, frzC_v, hy1, Sl_ne hy2 (ces_ne (fun e => by rw [e] at hln; simp at hln; omega))]
      · rw [if_neg (fun z => h z.2)]
        obtain ⟨c, hc0⟩ : ∃ c : List Ce, c = t := ⟨_, rfl⟩
        rw [← hc0]
        have hcl2 : c.length = t.length := by rw [hc0]
        obtain ⟨x0, hx0⟩ : ∃ x0 : AV, x0 = .os (H'.next + 1 + 1) 0 0 c.length := ⟨_, rfl⟩
        apply V.lpS [42, 43, 44, 45, 46, 47, 48, 49, 50, 51, 52] (fun k xs H2 => ∃ (i : Nat) (x : AV), k = w.toNat - (c.length + i) ∧ c.length + i ≤ w.toNat ∧ H'.next + 2 ≤ H2.next ∧ H2.get H'.next = some (rblk x wr) ∧ H2.get (H'.next + 1) = some zblk ∧ OwS H2 (H'.next + 2) 52 3 x (cesA (c ++ blanks i))) (w.toNat - c.length)
        focus (intro xs; simp only [putMany, set2, Nat.reduceAdd, Nat.reduceDiv, Nat.reduceMod, nth_zero, nth_succ, List.set_cons_zero, List.set_cons_succ]; rfl)
        focus (first | rfl | simp only [readMany, nth_zero, nth_succ, Nat.reduceDiv, Nat.reduceMod])
        · refine ⟨0, x0, rfl, by omega, by (first | omega | (simp only [next_push, next_set, next_empty]; done) | (simp only [next_push, next_set, next_empty]; omega)), by rw [hx0]; simp (disch := (first | omega | exact zX | fail)) only [get_set, get_push, next_push, next_set, if_pos', if_neg', if_true, if_false, reduceIte], by simp (disch := (first | omega | exact zX | fail)) only [get_set, get_push, next_push, next_set, if_pos', if_neg', if_true, if_false, reduceIte], ?_⟩
          rw [hx0]
          rw [show c ++ blanks 0 = c from List.append_nil c]
          first
          | exact .inl ⟨by rw [hc0]; rfl, hx.symm⟩
          | exact .inr ⟨_, 0, by rw [ces_len], by omega, by (first | omega | (simp only [next_push, next_set, next_empty]; done) | (simp only [next_push, next_set, next_empty]; omega)), by simp (disch := (first | omega | exact zX | fail)) only [get_set, get_push, next_push, next_set, if_pos', if_neg', if_true, if_false, reduceIte]⟩
          | exact .inr ⟨_, 0, by rw [ces_len, hcl2], by omega, by (first | omega | (simp only [next_push, next_set, next_empty]; done) | (simp only [next_push, next_set, next_empty]; omega)), by rw [hc0]; simp (disch := (first | omega | exact zX | fail)) only [get_set, get_push, next_push, next_set, if_pos', if_neg', if_true, if_false, reduceIte]⟩
          | trace_state
        · rintro k xs H2 ⟨i, x, rfl, hi, hn2, g0, g1, ho⟩
          have hln : (c ++ blanks i).length = c.length + i := by rw [List.length_append, blanks_len]
          obtain ⟨x', H3, tr3, happ, ho', hnx, hfr⟩ := ho.add1 (ELo oc) lo' app_cell (by omega) hn2 (by rw [ces_len, hln]; unfold roomMax; omega) [.v (.int .i32 32), .v (.int .i64 1), .v (.int .i64 0)]
          have k0 : H3.get H'.next = some (rblk x wr) := by rw [hfr _ (by omega)]; exact g0
          have k1 : H3.get (H'.next + 1) = some zblk := by rw [hfr _ (by omega)]; exact g1
          have hc := ho.cells
          have hc' := ho'.cells
          have hlx := len_cell lo' ho.slh
          rw [hln] at hlx
          repeat' (first | refine zka ?_ | refine zkb ?_ | (apply RKp.op; ((try simp (disch := (first | exact zQ | fail)) only [happ, g0, g1, k0, k1, hc, hc', hlx, go_sem]); exact zL); rfl) | (apply RKp.call; (apply Blank_run <;> (exact zD)); rfl) | refine zkc ?_ | refine zz ?_ | refine zkd ?_ | refine zke ?_ | refine zkf ?_ | (refine RKg.split (fun h => ?_) (fun h => ?_) <;> (try rw [h]) <;> (replace h := zB h) <;> (try (exfalso; first | exact h | omega))) | refine zbt ?_ | apply V.regK | refine zva ?_ | refine zvb ?_ | refine zgc ?_ | refine zvd ?_ | refine zve ?_ | (refine zvf (fun h => ?_) (fun h => ?_) <;> (replace h := zB h) <;> (try (exfalso; first | exact h | omega))) | (refine FnQ.retB (resc Tryz.results132) (by simp (disch := (first | exact zQ | fail)) only [cellR_op, happ, g0, g1, k0, k1, hc, hc', hlx, go_sem]; rfl) ?_; (try dsimp only)))
          · refine LoopS.again (w.toNat - (c.length + (i + 1))) (by rfl) (by omega) ⟨i + 1, x', rfl, by omega, by (first | omega | (simp only [next_push, next_set, next_empty]; done) | (simp only [next_push, next_set, next_empty]; omega)), by simp (disch := (first | omega | exact zX | fail)) only [get_set, get_push, next_push, next_set, if_pos', if_neg', if_true, if_false, reduceIte], by rw [get_set, if_neg (by omega)]; exact k1, ?_⟩
            have e9 : cesA (c ++ blanks i) ++ [[.v (.int .i32 32), .v (.int .i64 1), .v (.int .i64 0)]] = cesA (c ++ blanks (i + 1)) := by
              have := blanks_succ i
              simp only [cesA, List.map_append] at this ⊢
              rw [List.append_assoc, this]
            rw [e9] at ho'
            exact ho'.set (by omega) _
          · have ei : i = w.toNat - c.length := by omega
            have ho2 := ho.set (m := H'.next + 1) (by omega) (rblk x wr)
            rw [← ei]
            obtain ⟨y, hy1, hy2⟩ : ∃ y, frzC (H2.set (H'.next + 1) (rblk x wr)) lo' x = y ∧ Sl 3 y (cesA (c ++ blanks i)) := by
              rcases ho2 with ⟨h1, rfl | rfl⟩ | ⟨n, e, rfl, h1, h2, h3⟩
              · exact ⟨_, frzC_e0 _ _, .inr ⟨h1, .inl rfl⟩⟩
              · exact ⟨_, frzC_v _ _ _, .inr ⟨h1, .inr rfl⟩⟩
              · exact ⟨_, osC_frz2 (by omega) h3 (by rw [ces_len]), .inl rfl⟩
            rw [frzR_agg, List.map_cons, List.map_cons, List.map_nil, frzC_v, hy1, Sl_ne hy2 (ces_ne (fun e => by rw [e] at hln; simp at hln; omega))]
  · have d1 : decide (rowG l) = false := decide_eq_false hG
    rw [if_neg hG]
    refine zvin Tryz.func132 Tryz.ntmps132 ?_
    repeat' (first | refine zka ?_ | refine zkb ?_ | (apply RKp.op; ((try simp (disch := (first | exact zQ | fail)) only [d1, go_sem]); exact zL); rfl) | (apply RKp.callR; ((first | apply hMay | apply hBl) <;> (exact zD)); rfl; intro tr htr) | refine zkc ?_ | refine zz ?_ | refine zkd ?_ | refine zke ?_ | refine zkf ?_ | (refine RKg.split (fun h => ?_) (fun h => ?_) <;> (try rw [h]) <;> (replace h := zB h) <;> (try (exfalso; first | exact h | omega))) | refine zbt ?_ | apply V.regK | refine zva ?_ | refine zvb ?_ | refine zgc ?_ | refine zvd ?_ | refine zve ?_ | (refine zvf (fun h => ?_) (fun h => ?_) <;> (replace h := zB h) <;> (try (exfalso; first | exact h | omega))) | (refine FnQ.retB (resc Tryz.results132) (by simp (disch := (first | exact zQ | fail)) only [cellR_op, d1, go_sem]; rfl) ?_; (try dsimp only)))
    rfl
end
end Go.Am

namespace Go.Am
variable {oc : Orc} [OrcI oc] [OrcF oc]
open Go.Proofs
set_option maxRecDepth 8000
set_option maxHeartbeats 4000000

/-- Rows that came in. -/
def RowsP (es : List (List AV)) (rows : List Rw) : Prop := es.length = rows.length ∧ ∀ j, j < rows.length → ∃ A, nth [] es j = [A, .v (.bool (rows.getD j noRw).2)] ∧ Sl 3 A (cesA (rows.getD j noRw).1) ∧ (rows.getD j noRw).1.length < 2 ^ 63
theorem RowsP.nil : RowsP [] [] := ⟨rfl, fun j h => absurd h (Nat.not_lt_zero _)⟩
def ofRow (rows : List Rw) (w : Int) (i : Nat) : Rw := if i < rows.length then fitR w (rows.getD i noRw) else (blanks w.toNat, false)

/-- A screen of rows. -/
def Sc.of (rows : List Rw) (w h ar ac a : Int) : Sc :=
  ⟨min (max w 2) 300, min (max h 1) 100, (List.range (min (max h 1) 100).toNat).map (ofRow rows (min (max w 2) 300)), min (max ar 0) (min (max h 1) 100 - 1), min (max ac 0) (min (max w 2) 300), a % 256⟩
theorem hands_sc {H : AHeap} {T lo n m e len : Nat} {v1 v2 v3 v4 v5 : Value} {rows : List Rw} (hl : lo ≤ n) (hm : lo ≤ m) (hne : n ≠ m) (h1 : H.get n = some ⟨T, 6, 0, [[.v v1, .v v2, .os m e 0 len, .v v3, .v v4, .v v5]], none⟩) (h2 : H.get m = some ⟨48, 2, e, rowsA rows, none⟩) : Hands H lo (.op n 0 0 0) (fun b => .op b 0 0 0) fun b => [⟨T, 6, 0, [[.v v1, .v v2, .os (b + 1) 0 0 len, .v v3, .v v4, .v v5]], none⟩, ⟨48, 2, 0, rowsA rows, none⟩] := by
  have bl : ∀ k, lo ≤ k → Nat.blt k lo = false := fun k hk => by
    cases h : Nat.blt k lo with
    | false => rfl
    | true => rw [Nat.blt_eq] at h; omega
  have be : Nat.beq m n = false := by
    cases h : Nat.beq m n with
    | false => rfl
    | true => exact absurd (Nat.eq_of_beq_eq_true h).symm hne
  have be' : Nat.beq n m = false := by
    cases h : Nat.beq n m with
    | false => rfl
    | true => exact absurd (Nat.eq_of_beq_eq_true h) hne
  refine ⟨[n, m], ?_, ?_, ?_, fun b => ⟨?_, ?_⟩⟩
  · show (if Nat.blt n lo then [] else match H.get n with
      | some b => b.es.foldl (fun T cs => cs.foldl (addN lo) T) (addN lo [] (.op n 0 0 0))
      | none => []) = _
    rw [bl n hl, h1]
    show [[AV.v v1, .v v2, .os m e 0 len, .v v3, .v v4, .v v5]].foldl (fun T cs => cs.foldl (addN lo) T) (if Nat.blt n lo || ([] : List Nat).any (Nat.beq n) then [] else [] ++ [n]) = _
    rw [bl n hl]
    show (if Nat.blt m lo || [n].any (Nat.beq m) then [n] else [n] ++ [m]) = _
    rw [bl m hm]
    simp [be]
  · simp [nodupN, be']
  · simp [Nat.ble_eq, hl, hm]
  · have hf : FlatE (rowsA rows) := flat_rowsA rows
    have e1 : renC H lo b [n, m] frzDepth (.os m e 0 len) = .os (b + 1) 0 0 len := by
      simp only [renC, if_neg (Nat.not_lt.2 hm), idxN, if_neg hne, if_true, h2]
    simp only [blksA, h1, h2, Option.map_some, List.map_cons, List.map_nil, e1, renC_flatE H lo b [n, m] hf]
    rfl
  · simp only [renV, ren1, renC, if_neg (Nat.not_lt.2 hl), idxN, if_true, h1, Nat.add_zero]
theorem SP.of {T lo : Nat} {H : AHeap} (hlo : lo ≤ H.next) (s : Sc) {H' : AHeap} (e : H' = (H.push ⟨T, 6, 0, [[.v (.int .i64 s.w), .v (.int .i64 s.h), .os (H.next + 1) 0 0 s.rows.length, .v (.int .i64 s.row), .v (.int .i64 s.col), .v (.int .i64 s.attr)]], none⟩).push ⟨48, 2, 0, rowsA s.rows, none⟩) : SP T lo H' H.next (H.next + 1) 0 s := by
  subst e
  exact ⟨hlo, by omega, by (first | omega | (simp only [next_push, next_set, next_empty]; done) | (simp only [next_push, next_set, next_empty]; omega)), by (first | omega | (simp only [next_push, next_set, next_empty]; done) | (simp only [next_push, next_set, next_empty]; omega)), by omega, by simp (disch := (first | omega | exact zX | fail)) only [get_set, get_push, next_push, next_set, if_pos', if_neg', if_true, if_false, reduceIte], by simp (disch := (first | omega | exact zX | fail)) only [get_set, get_push, next_push, next_set, if_pos', if_neg', if_true, if_false, reduceIte]⟩
section
variable {ys : List (Nat × LRec)} {lo : Nat} {H : AHeap} {A : AV} {es : List (List AV)} {rows : List Rw}
theorem attr_in (a : Int) : (a.tmod 256 + 256).tmod 256 = a % 256 ∧ -256 ≤ a.tmod 256 ∧ a.tmod 256 ≤ 256 := by
  rcases Int.le_total 0 a with h | h
  · rw [Int.tmod_eq_emod_of_nonneg h, Int.tmod_eq_emod_of_nonneg (by omega)]; omega
  · have e : a.tmod 256 = -((-a) % 256) := by rw [← Int.tmod_eq_emod_of_nonneg (by omega), Int.neg_tmod]; omega
    rw [e, Int.tmod_eq_emod_of_nonneg (by omega)]; omega
abbrev pblk (r c : Int) : Blk := ⟨25, 2, 0, [[.v (.int .i64 r), .v (.int .i64 c)]], none⟩
theorem Of_wc {lo' : Nat} {H' : AHeap} (hlo : lo' = H'.next) (hA' : SlH H' 2 A es) (hr : RowsP es rows) (hlen : rows.length < 2 ^ 40) (w h ar ac a : Int) (ha : -9223372036854775808 ≤ a ∧ a ≤ 9223372036854775807) : WC (ELo oc) [] lo' 92 [A, .v (.int .i64 w), .v (.int .i64 h), .agg [.v (.int .i64 ar), .v (.int .i64 ac)], .v (.int .i64 a)] H' fun r H'' => ∃ n m e, r = .op n 0 0 0 ∧ lo' ≤ n ∧ lo' ≤ m ∧ SP 127 0 H'' n m e (Sc.of rows w h ar ac a) := by
  have w2 : 2 ≤ min (max w 2) 300 := by omega
  have w3 : min (max w 2) 300 ≤ 300 := by omega
  have h1 : 1 ≤ min (max h 1) 100 := by omega
  have h2 : min (max h 1) 100 ≤ 100 := by omega
  obtain ⟨a1, a2, a3⟩ := attr_in a
  have lenE : primL lo' H' (builtinA (ELo oc) .len #[22] 3 [A]) = some (.v (.int .i64 rows.length), H', rdTr A) := by
    have := len_SlH (ELo oc) lo' 22 3 hA' (by kernel_rfl)
    rw [hr.1] at this; exact this
  refine zvin Tryz.func92 Tryz.ntmps92 ?_
  repeat' (first | refine zka ?_ | refine zkb ?_ | (apply RKp.op; ((try simp (disch := (first | exact zQ | fail)) only [a1, go_sem]); exact zL); rfl) | (apply RKp.call; (apply within_run <;> (exact zD)); rfl) | refine zkc ?_ | refine zz ?_ | refine zkd ?_ | refine zke ?_ | refine zkf ?_ | (refine RKg.split (fun h => ?_) (fun h => ?_) <;> (try rw [h]) <;> (replace h := zB h) <;> (try (exfalso; first | exact h | omega))) | refine zbt ?_ | apply V.regK | refine zva ?_ | refine zvb ?_ | refine zgc ?_ | refine zvd ?_ | refine zve ?_ | (refine zvf (fun h => ?_) (fun h => ?_) <;> (replace h := zB h) <;> (try (exfalso; first | exact h | omega))) | (refine zfc Tryz.results92 ?_; (try dsimp only)))
  unfold Sc.of
  generalize min (max w 2) 300 = w' at *
  generalize min (max h 1) 100 = h' at *
  apply V.lpS [28, 12, 13, 29, 30, 31, 32, 33, 34, 35, 36, 37, 38, 39, 40, 41, 42, 43, 44, 45, 46, 47, 48, 49, 50, 51, 52, 53, 54, 55, 56, 57, 58, 59] (fun k xs H2 => ∃ (i : Nat) (g : _) (x : AV), xs = .v (.int .i64 i) :: g ∧ k = h'.toNat - i ∧ i ≤ h'.toNat ∧ Ext H' H2 ∧ H'.next + 2 ≤ H2.next ∧ H2.get H'.next = some (pblk ar ac) ∧ H2.get (H'.next + 1) = some ⟨127, 6, 0, [[.v (.int .i64 w'), .v (.int .i64 h'), x, .v (.int .i64 0), .v (.int .i64 0), .v (.int .i64 (a % 256))]], none⟩ ∧ OwS H2 (H'.next + 2) 48 2 x (rowsA ((List.range i).map (ofRow rows w')))) h'.toNat
  focus (intro xs; simp only [putMany, set2, Nat.reduceAdd, Nat.reduceDiv, Nat.reduceMod, nth_zero, nth_succ, List.set_cons_zero, List.set_cons_succ]; rfl)
  focus (first | rfl | simp only [readMany, nth_zero, nth_succ, Nat.reduceDiv, Nat.reduceMod])
  · exact ⟨0, _, _, rfl, rfl, Nat.zero_le _, ((Ext.refl _).push _).push _, by (first | omega | (simp only [next_push, next_set, next_empty]; done) | (simp only [next_push, next_set, next_empty]; omega)), by simp (disch := (first | omega | exact zX | fail)) only [get_set, get_push, next_push, next_set, if_pos', if_neg', if_true, if_false, reduceIte], by simp (disch := (first | omega | exact zX | fail)) only [get_set, get_push, next_push, next_set, if_pos', if_neg', if_true, if_false, reduceIte], OwS.nil _ _ _ _⟩
  · rintro k xs H2 ⟨i, g, x, rfl, rfl, hi, hx, hn2, g0, g1, ho⟩
    have hlr : ((List.range i).map (ofRow rows w')).length = i := by simp
    have hA2 := hA'.ext hx
    have lenE : ∀ G, Ext H2 G → primL lo' G (builtinA (ELo oc) .len #[22] 3 [A]) = some (.v (.int .i64 rows.length), G, rdTr A) := fun G hG => by
      have := len_SlH (ELo oc) lo' 22 3 (hA2.ext hG) (by kernel_rfl)
      rw [hr.1] at this; exact this
    by_cases hend : (i : Int) < h'
    · obtain ⟨x', H3, tr3, happ, ho', hnx, hfr⟩ := (ho.push ⟨48, 2, 0, [[.sl 3 (cesA (ofRow rows w' i).1), .v (.bool (ofRow rows w' i).2)]], none⟩).add1 (ELo oc) lo' app_row (by omega) (by (first | omega | (simp only [next_push, next_set, next_empty]; done) | (simp only [next_push, next_set, next_empty]; omega))) (by rw [rowsA_len, hlr]; unfold roomMax; omega) [.sl 3 (cesA (ofRow rows w' i).1), .v (.bool (ofRow rows w' i).2)]
      rw [next_push] at happ
      have k0 : H3.get H'.next = some (pblk ar ac) := by rw [hfr _ (by omega)]; simp (disch := (first | omega | exact zX | fail)) only [get_set, get_push, next_push, next_set, if_pos', if_neg', if_true, if_false, reduceIte]; exact g0
      have k1 := hfr (H'.next + 1) (by omega)
      rw [get_push, if_neg (by omega), g1] at k1
      have hc := ho.cells
      have hc' := ho'.cells
      rw [next_push] at hnx
      have hxt : Ext H' H3 := ⟨by omega, fun k hk => by rw [hfr k (by omega), get_push, if_neg (by omega), hx.get k hk]⟩
      have hfin : ∀ c1 : List (List AV), c1 = c1 → OwS (H3.set (H'.next + 1) ⟨127, 6, 0, [[.v (.int .i64 w'), .v (.int .i64 h'), x', .v (.int .i64 0), .v (.int .i64 0), .v (.int .i64 (a % 256))]], none⟩) (H'.next + 2) 48 2 x' (rowsA ((List.range (i + 1)).map (ofRow rows w'))) := fun _ _ => by
        rw [List.range_succ, List.map_append, rowsA_app]
        exact ho'.set (by omega) _
      by_cases hlt : i < rows.length
      · have hBl := fun ys G => Blank_D (ys := ys) (lo := lo') (H := G) w' (by omega) w3
        obtain ⟨B, hB1, hB2, hB3⟩ := hr.2 i hlt
        have ixE : ∀ G, Ext H2 G → primL lo' G (indexAddrA (ELo oc) 22 A (.v (.int .i64 (i : Int)))) = some (ixA A es i, G, rdTr A) := fun G hG =>
          ix_SlH (ELo oc) lo' 22 .i64 (i : Int) (hA2.ext hG) (by kernel_rfl) (by omega) (by rw [hr.1]; omega)
        have ldE : ∀ G, Ext H2 G → primL lo' G (loadA (ELo oc) 48 (ixA A es i)) = some (.agg [B, .v (.bool (rows.getD i noRw).2)], G, rdTr A) := fun G hG => by
          rw [load_SlH (ELo oc) lo' 48 i (hA2.ext hG) (by rw [hr.1]; exact hlt), hB1]; rfl
        have hfit := fun ys G => fit_run (ys := ys) (lo := lo') (H := G) (wr := (rows.getD i noRw).2) hB2 hB3 w' w2 w3
        have hro : ofRow rows w' i = fitR w' ((rows.getD i noRw).1, (rows.getD i noRw).2) := by unfold ofRow; rw [if_pos hlt]
        rw [← hro] at hfit
        repeat' (first | refine zka ?_ | refine zkb ?_ | (apply RKp.op; ((try simp (disch := (first | exact zQ | fail)) only [lenE, ixE, ldE, happ, g0, g1, k0, k1, hc, hc', go_sem]); exact zL); rfl) | (apply RKp.callR; ((first | apply hBl | apply hfit) <;> (exact zD)); rfl; intro tr htr) | refine zkc ?_ | refine zz ?_ | refine zkd ?_ | refine zke ?_ | refine zkf ?_ | (refine RKg.split (fun h => ?_) (fun h => ?_) <;> (try rw [h]) <;> (replace h := zB h) <;> (try (exfalso; first | exact h | omega))) | refine zbt ?_ | apply V.regK | refine zva ?_ | refine zvb ?_ | refine zgc ?_ | refine zvd ?_ | refine zve ?_ | (refine zvf (fun h => ?_) (fun h => ?_) <;> (replace h := zB h) <;> (try (exfalso; first | exact h | omega))) | (refine zfc Tryz.results92 ?_; (try dsimp only)))
        exact LoopS.again (h'.toNat - (i + 1)) (by rfl) (by omega) ⟨i + 1, _, x', rfl, rfl, by omega, hxt.set (by omega) _, by (first | omega | (simp only [next_push, next_set, next_empty]; done) | (simp only [next_push, next_set, next_empty]; omega)), by rw [get_set, if_neg (by omega)]; exact k0, by simp (disch := (first | omega | exact zX | fail)) only [get_set, get_push, next_push, next_set, if_pos', if_neg', if_true, if_false, reduceIte], hfin [] rfl⟩
      · have hro : ofRow rows w' i = (blanks w'.toNat, false) := by unfold ofRow; rw [if_neg hlt]
        have hBl := fun ys G => Blank_D (ys := ys) (lo := lo') (H := G) w' (by omega) w3
        rw [show AV.agg [.sl 3 (cesA (blanks w'.toNat)), .v (.bool false)] = .agg [.sl 3 (cesA (ofRow rows w' i).1), .v (.bool (ofRow rows w' i).2)] by rw [hro]] at hBl
        repeat' (first | refine zka ?_ | refine zkb ?_ | (apply RKp.op; ((try simp (disch := (first | exact zQ | fail)) only [lenE, happ, g0, g1, k0, k1, hc, hc', go_sem]); exact zL); rfl) | (apply RKp.callR; (apply hBl <;> (exact zD)); rfl; intro tr htr) | refine zkc ?_ | refine zz ?_ | refine zkd ?_ | refine zke ?_ | refine zkf ?_ | (refine RKg.split (fun h => ?_) (fun h => ?_) <;> (try rw [h]) <;> (replace h := zB h) <;> (try (exfalso; first | exact h | omega))) | refine zbt ?_ | apply V.regK | refine zva ?_ | refine zvb ?_ | refine zgc ?_ | refine zvd ?_ | refine zve ?_ | (refine zvf (fun h => ?_) (fun h => ?_) <;> (replace h := zB h) <;> (try (exfalso; first | exact h | omega))) | (refine zfc Tryz.results92 ?_; (try dsimp only)))
        exact LoopS.again (h'.toNat - (i + 1)) (by rfl) (by omega) ⟨i + 1, _, x', rfl, rfl, by omega, hxt.set (by omega) _, by (first | omega | (simp only [next_push, next_set, next_empty]; done) | (simp only [next_push, next_set, next_empty]; omega)), by rw [get_set, if_neg (by omega)]; exact k0, by simp (disch := (first | omega | exact zX | fail)) only [get_set, get_push, next_push, next_set, if_pos', if_neg', if_true, if_false, reduceIte], hfin [] rfl⟩
    · have ei : i = h'.toNat := by omega
      subst ei
      repeat' (first | refine zka ?_ | refine zkb ?_ | (apply RKp.op; ((try simp (disch := (first | exact zQ | fail)) only [g0, g1, go_sem]); exact zL); rfl) | (apply RKp.call; (apply within_run <;> (exact zD)); rfl) | refine zkc ?_ | refine zz ?_ | refine zkd ?_ | refine zke ?_ | refine zkf ?_ | (refine RKg.split (fun h => ?_) (fun h => ?_) <;> (try rw [h]) <;> (replace h := zB h) <;> (try (exfalso; first | exact h | omega))) | refine zbt ?_ | apply V.regK | refine zva ?_ | refine zvb ?_ | refine zgc ?_ | refine zvd ?_ | refine zve ?_ | (refine zvf (fun h => ?_) (fun h => ?_) <;> (replace h := zB h) <;> (try (exfalso; first | exact h | omega))) | (refine zfc Tryz.results92 ?_; (try dsimp only)))
      rcases ho with ⟨h0, _⟩ | ⟨m, e, rfl, hb, hm, hg⟩
      · exfalso
        have := congrArg List.length h0
        rw [rowsA_len, hlr] at this
        simp at this; omega
      · refine ⟨H'.next + 1, m, e, rfl, by omega, by omega, ⟨Nat.zero_le _, Nat.zero_le _, by (first | omega | (simp only [next_push, next_set, next_empty]; done) | (simp only [next_push, next_set, next_empty]; omega)), by (first | omega | (simp only [next_push, next_set, next_empty]; done) | (simp only [next_push, next_set, next_empty]; omega)), by omega, ?_, ?_⟩⟩
        · rw [rowsA_len]
          simp (disch := (first | omega | exact zX | fail)) only [get_set, get_push, next_push, next_set, if_pos', if_neg', if_true, if_false, reduceIte]
        · rw [get_set, if_neg (by omega)]
          exact hg

/-- An own call that gives a screen. -/
theorem scr_own {f : FuncId} {args : List AV} {T : Nat} {s : Sc} (hpol : (ELo oc).pol f = .own) (hc : ∀ lo' H', (lo' = H.next ∧ H' = H) ∨ (lo' = 0 ∧ H' = .empty ∧ args.all nf = true) → WC (ELo oc) [] lo' f args H' fun r H'' => ∃ n m e, r = .op n 0 0 0 ∧ lo' ≤ n ∧ lo' ≤ m ∧ SP T 0 H'' n m e s) : CallN (ELo oc) ys lo f args H (.op H.next 0 0 0) ((H.push ⟨T, 6, 0, [[.v (.int .i64 s.w), .v (.int .i64 s.h), .os (H.next + 1) 0 0 s.rows.length, .v (.int .i64 s.row), .v (.int .i64 s.col), .v (.int .i64 s.attr)]], none⟩).push ⟨48, 2, 0, rowsA s.rows, none⟩) :=
  WC.ownN (x := fun b => .op b 0 0 0) (bs := fun b => [⟨T, 6, 0, [[.v (.int .i64 s.w), .v (.int .i64 s.h), .os (b + 1) 0 0 s.rows.length, .v (.int .i64 s.row), .v (.int .i64 s.col), .v (.int .i64 s.attr)]], none⟩, ⟨48, 2, 0, rowsA s.rows, none⟩]) hpol fun lo' H' hh => by
    obtain ⟨k, r, H'', h1, n, m, e, rfl, hn, hm, hS⟩ := hc lo' H' hh
    exact ⟨k, _, H'', h1, hands_sc hn hm hS.ne hS.blk hS.rows⟩
theorem scrOf_run (hA : SlH H 2 A es) (hr : RowsP es rows) (hlen : rows.length < 2 ^ 40) (w h ar ac a : Int) (ha : -9223372036854775808 ≤ a ∧ a ≤ 9223372036854775807) : CallN (ELo oc) ys lo 92 [A, .v (.int .i64 w), .v (.int .i64 h), .agg [.v (.int .i64 ar), .v (.int .i64 ac)], .v (.int .i64 a)] H (.op H.next 0 0 0) ((H.push ⟨127, 6, 0, [[.v (.int .i64 (Sc.of rows w h ar ac a).w), .v (.int .i64 (Sc.of rows w h ar ac a).h), .os (H.next + 1) 0 0 (Sc.of rows w h ar ac a).rows.length, .v (.int .i64 (Sc.of rows w h ar ac a).row), .v (.int .i64 (Sc.of rows w h ar ac a).col), .v (.int .i64 (Sc.of rows w h ar ac a).attr)]], none⟩).push ⟨48, 2, 0, rowsA (Sc.of rows w h ar ac a).rows, none⟩) :=
  scr_own rfl fun lo' H' hh => Of_wc (lo_two hh) (hA.two (.inr ⟨[], .inr (by simp)⟩) hh) hr hlen w h ar ac a ha
theorem new_of (w h : Int) : Sc.of [] w h 0 0 0 = Sc.new (min (max w 2) 300) (min (max h 1) 100) := by
  unfold Sc.of Sc.new
  have e1 : (List.range (min (max h 1) 100).toNat).map (ofRow [] (min (max w 2) 300)) = List.replicate (min (max h 1) 100).toNat (blanks (min (max w 2) 300).toNat, false) := by
    rw [show ofRow [] (min (max w 2) 300) = fun _ => (blanks (min (max w 2) 300).toNat, false) from rfl, List.map_const', List.length_range]
  rw [e1]
  congr 1 <;> omega
theorem New_run (w h : Int) : CallN (ELo oc) ys lo 81 [.v (.int .i64 w), .v (.int .i64 h)] H (.op H.next 0 0 0) ((H.push ⟨127, 6, 0, [[.v (.int .i64 (Sc.new (min (max w 2) 300) (min (max h 1) 100)).w), .v (.int .i64 (Sc.new (min (max w 2) 300) (min (max h 1) 100)).h), .os (H.next + 1) 0 0 (Sc.new (min (max w 2) 300) (min (max h 1) 100)).rows.length, .v (.int .i64 (Sc.new (min (max w 2) 300) (min (max h 1) 100)).row), .v (.int .i64 (Sc.new (min (max w 2) 300) (min (max h 1) 100)).col), .v (.int .i64 (Sc.new (min (max w 2) 300) (min (max h 1) 100)).attr)]], none⟩).push ⟨48, 2, 0, rowsA (Sc.new (min (max w 2) 300) (min (max h 1) 100)).rows, none⟩) :=
  scr_own rfl fun lo' H' hh => by
    have hlo := lo_two hh
    have hof := fun ys => scrOf_run (ys := ys) (lo := lo') (H := H') (A := .v (.slice none 0 0)) (.inl (.inr ⟨rfl, .inr rfl⟩)) RowsP.nil (by simp) w h 0 0 0 (by omega)
    rw [new_of] at hof
    generalize Sc.new (min (max w 2) 300) (min (max h 1) 100) = s at *
    refine zvin Tryz.func81 Tryz.ntmps81 ?_
    repeat' (first | refine zka ?_ | refine zkb ?_ | (apply RKp.op; ((try simp (disch := (first | exact zQ | fail)) only [go_sem]); exact zL); rfl) | (apply RKp.callN; (apply hof <;> (exact zD)); rfl; intro tr htr) | refine zkc ?_ | refine zz ?_ | refine zkd ?_ | refine zke ?_ | refine zkf ?_ | (refine RKg.split (fun h => ?_) (fun h => ?_) <;> (try rw [h]) <;> (replace h := zB h) <;> (try (exfalso; first | exact h | omega))) | refine zbt ?_ | apply V.regK | refine zvd ?_ | refine zve ?_ | (refine zvf (fun h => ?_) (fun h => ?_) <;> (replace h := zB h) <;> (try (exfalso; first | exact h | omega))) | (refine zfc Tryz.results81 ?_; (try dsimp only)))
    exact ⟨H'.next, H'.next + 1, 0, rfl, by omega, by omega, SP.of (Nat.zero_le _) s rfl⟩
theorem ScG.new2 (w h : Int) : ScG (Sc.new (min (max w 2) 300) (min (max h 1) 100)) := ScG.new (by omega) (by omega) (by omega) (by omega)
end
end Go.Am
