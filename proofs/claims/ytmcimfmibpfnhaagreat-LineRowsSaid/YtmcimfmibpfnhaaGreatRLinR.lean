
/- LineRows: a line takes as many rows as its cells need. -/
import Derived.Test.YtmcimfmibpfnhaaGreatRLinU
set_option linter.all false
set_option linter.deprecated false
namespace Go.Am
variable {oc : Orc} [OrcI oc]
open Go.Proofs
set_option maxRecDepth 8000
set_option maxHeartbeats 4000000
section
variable {A : AV} {l : List Ce}
theorem LineRows_law (hbe : ∀ ys lo H, CallR (ELo oc) ys lo 22 [] H (.v (.bool true)) H ⟨0, 0, 0⟩) (hA : Sl 3 A (cesA l)) (hl : l.length < 2 ^ 63) (h32 : R32 l) (a : Int) (ha : -9223372036854775808 ≤ a ∧ a ≤ 9223372036854775807) : WC (ELo oc) [] 0 12 [A, .v (.int .i64 a)] .empty fun x _ => x = .v (.bool true) := by
  generalize hEm : AHeap.empty = H0
  have hA' : SlH H0 3 A (cesA l) := .inl hA
  have lo' : Nat := 0
  have hB := cut_hi hA' (min l.length 60) (Nat.min_le_left _ _)
  have hml : (l.take (min l.length 60)).length = min l.length 60 := by rw [List.length_take]; omega
  have h32' := (show R32 (l.take (min l.length 60)) from R32_mem.2 fun c hc => R32_mem.1 h32 c (List.mem_of_mem_take hc))
  have slh := fun G => sl_hi 0 (H := G) (l := l) (.inl hA)
  have len0 := fun G => len_cell 0 (H := G) (l := l) (.inl hA)
  generalize hm : l.take (min l.length 60) = m at *
  generalize hmn : min l.length 60 = mn at *
  have hmm : (min (l.length : Int) 60) = mn := by omega
  have hmt : (mn : Int).toNat = mn := Int.toNat_natCast _
  generalize hcB : cutA A 0 mn = B at *
  obtain ⟨m1, m2, m3⟩ := mod_20 a
  have hw0 : 2 + (a.tmod 20 + 20).tmod 20 = 2 + a % 20 := by rw [m1]
  generalize hwd : 2 + a % 20 = w at *
  have hw1 : 2 ≤ w := by omega
  have hw2 : w ≤ 21 := by omega
  have hLi := fun ys G (x : Ext H0 G) => refLine_run (ys := ys) (lo := 0) (hB.ext x) (by omega) h32'
  have hLay := fun ys G (x : Ext H0 G) => Layout_run (ys := ys) (lo := 0) (hB.ext x) (by omega) w
  by_cases hg : lineG m
  · simp only [decide_eq_true hg] at hLi
    have hlay : layL m w = lay w.toNat [] m := if_pos ⟨hw1, by omega, hg⟩
    have hne := lay_ne w.toNat [] m
    have hRP : RsP (rowsA (layL m w)) (layL m w) := RsP.layL w h32'
    have hRA : SlH H0 2 (rwA (layL m w)) (rowsA (layL m w)) := .inl (rwA_Sl _)
    rw [hlay] at hRP hRA hLay
    have hall := lay_rows w.toNat (by omega) (by omega) m [] hg trivial (Nat.zero_le _)
    obtain ⟨hc1, hc2, hc3⟩ := layQ_count w.toNat (by omega) m hg
    have hwn : (w.toNat : Int) = w := by omega
    rw [hwn] at hc1
    have hc4 : 0 ≤ ((wideL m : Int) + padsR (lay w.toNat [] m) + w - 1).tdiv w := Int.tdiv_nonneg (by omega) (by omega)
    have hat := layQ_at w.toNat (by omega) m [] hg rfl (Nat.zero_le _)
    have hLL : (layL m w).length ≤ m.length + 1 := layL_le m w
    rw [hlay] at hLL
    generalize hR : lay w.toNat [] m = R at *
    generalize rwA R = RA at *
    generalize rowsA R = rs at *
    refine zvin Tryz.func12 Tryz.ntmps12 ?_
    repeat' (first
     | refine zka ?_
     | refine zkb ?_
     | (apply RKp.op; ((try simp (disch := (first | omega | exact zX | exact zO | fail)) only [slh, len0, hmm, hmt, hcB, hw0, go_sem, Nat.reduceDiv, Nat.reduceMod, Nat.reduceAdd, Nat.reduceSub, Nat.reduceEqDiff, Nat.reduceLeDiff, Nat.reduceLT, Nat.reduceMul, reduceIte, Nat.reducePow, Int.reduceEq]); exact zL); rfl)
     | (apply RKp.call; (apply hbe <;> (exact zD)); rfl)
     | (apply RKp.callR; ((first | apply hbe | apply hLi | apply hLay) <;> (exact zD)); rfl; intro tr htr)
     | (apply RKp.callO; (apply hbe <;> (exact zD)); rfl; intro tr)
     | (apply RKp.callRE; (apply hbe <;> (exact zD)); (intro x; rfl))
     | (apply RKp.callE; (apply hbe <;> (exact zD)); (intro x; rfl))
     | refine zkc ?_
     | apply RKg.tt
     | apply RKg.ff
     | refine zkd ?_
     | refine zke ?_
     | refine zkf ?_
     | (refine RKg.split (fun h => ?_) (fun h => ?_) <;> (try rw [h]) <;> (replace h := zB h) <;> (try (exfalso; first | exact h | omega)))
     | apply RK.nil
     | apply V.sq
     | apply V.bl
     | apply V.sc
     | apply V.skip
     | apply V.label
     | apply V.ret
     | apply V.exit
     | apply SeqQ.normal
     | apply SeqQ.ret
     | apply SeqQ.exit
     | apply BlockQ.normal
     | apply BlockQ.ret
     | apply BlockQ.here
     | refine zbt ?_
     | apply LoopS.ret
     | apply LoopS.exit
     | apply LoopF.ret
     | apply LoopF.exit
     | apply V.regK
      | refine zva ?_
     | refine zvb ?_
     | refine zgc ?_
     | refine zvd ?_
     | refine zve ?_
     | (refine zvf (fun h => ?_) (fun h => ?_) <;> (replace h := zB h) <;> (try (exfalso; first | exact h | omega)))
      | (refine zfc Tryz.results12 ?_; (try dsimp only)))
    have hB0 : SlH H0 3 B (cesA m) := hB
    apply V.lpF [7, 6, 28, 29, 30, 31, 32, 33, 34, 35, 36, 37, 38, 39, 40] (fun k xs => ∃ (i : Nat) (g : _), xs = .v (.int .i64 i) :: .v (.int .i64 (wideL (m.take i))) :: g ∧ k = m.length - i ∧ i ≤ m.length) m.length
    focus (intro xs; simp only [putMany, set2, Nat.reduceAdd, Nat.reduceDiv, Nat.reduceMod, nth_zero, nth_succ, List.set_cons_zero, List.set_cons_succ]; rfl)
    focus (first | rfl | simp only [readMany, nth_zero, nth_succ, Nat.reduceDiv, Nat.reduceMod])
    · exact ⟨0, _, rfl, rfl, Nat.zero_le _⟩
    · rintro k xs ⟨i, g, rfl, rfl, hi⟩
      by_cases hlt : i < m.length
      · have hmem : m.getD i zeroC ∈ m := by rw [List.getD_eq_getElem?_getD, List.getElem?_eq_getElem hlt]; exact List.getElem_mem hlt
        have hcw := (hg _ hmem).w
        have hwl := wideL_le hg i
        have hwt := wideL_take m i hlt
        have e1 : (wideL (m.take i) : Int) + (m.getD i zeroC).w = (wideL (m.take (i + 1)) : Nat) := by rw [hwt]; omega
        repeat' (first
         | refine zka ?_
         | refine zkb ?_
         | (apply RKp.op; ((try simp (disch := (first | omega | exact zX | exact zO | fail)) only [len_cell _ hB, ix_cell _ hB, fa_cell _ hB, lf_w _ hB, Int.toNat_natCast, e1, go_sem, Nat.reduceDiv, Nat.reduceMod, Nat.reduceAdd, Nat.reduceSub, Nat.reduceEqDiff, Nat.reduceLeDiff, Nat.reduceLT, Nat.reduceMul, reduceIte, Nat.reducePow, Int.reduceEq]); exact zL); rfl)
         | refine zkc ?_
         | apply RKg.tt
         | apply RKg.ff
         | refine zkd ?_
         | refine zke ?_
         | refine zkf ?_
         | (refine RKg.split (fun h => ?_) (fun h => ?_) <;> (try rw [h]) <;> (replace h := zB h) <;> (try (exfalso; first | exact h | omega)))
         | apply RK.nil
         | apply V.sq
         | apply V.bl
         | apply V.sc
         | apply V.skip
         | apply V.label
         | apply V.ret
         | apply V.exit
         | apply SeqQ.normal
         | apply SeqQ.ret
         | apply SeqQ.exit
         | apply BlockQ.normal
         | apply BlockQ.ret
         | apply BlockQ.here
         | refine zbt ?_
         | apply LoopS.ret
         | apply LoopS.exit
         | apply LoopF.ret
         | apply LoopF.exit
         | apply V.regK
          | refine zva ?_
         | refine zvb ?_
         | refine zgc ?_
         | refine zvd ?_
         | refine zve ?_
         | (refine zvf (fun h => ?_) (fun h => ?_) <;> (replace h := zB h) <;> (try (exfalso; first | exact h | omega)))
          | (refine zfc Tryz.results12 ?_; (try dsimp only)))
        exact LoopF.again (m.length - (i + 1)) (by rfl) (by omega) ⟨i + 1, _, rfl, rfl, by omega⟩
      · have e : i = m.length := by omega
        subst e
        have hwl := wideL_le hg m.length
        rw [List.take_length] at *
        repeat' (first
         | refine zka ?_
         | refine zkb ?_
         | (apply RKp.op; ((try simp (disch := (first | omega | exact zX | exact zO | fail)) only [len_cell _ hB, hw0, go_sem, Nat.reduceDiv, Nat.reduceMod, Nat.reduceAdd, Nat.reduceSub, Nat.reduceEqDiff, Nat.reduceLeDiff, Nat.reduceLT, Nat.reduceMul, reduceIte, Nat.reducePow, Int.reduceEq]); exact zL); rfl)
         | (apply RKp.callR; (apply hLay <;> (exact zD)); rfl; intro tr htr)
         | refine zkc ?_
         | apply RKg.tt
         | apply RKg.ff
         | refine zkd ?_
         | refine zke ?_
         | refine zkf ?_
         | (refine RKg.split (fun h => ?_) (fun h => ?_) <;> (try rw [h]) <;> (replace h := zB h) <;> (try (exfalso; first | exact h | omega)))
         | apply RK.nil
         | apply V.sq
         | apply V.bl
         | apply V.sc
         | apply V.skip
         | apply V.label
         | apply V.ret
         | apply V.exit
         | apply SeqQ.normal
         | apply SeqQ.ret
         | apply SeqQ.exit
         | apply BlockQ.normal
         | apply BlockQ.ret
         | apply BlockQ.here
         | refine zbt ?_
         | apply LoopS.ret
         | apply LoopS.exit
         | apply LoopF.ret
         | apply LoopF.exit
         | apply V.regK
          | refine zva ?_
         | refine zvb ?_
         | refine zgc ?_
         | refine zvd ?_
         | refine zve ?_
         | (refine zvf (fun h => ?_) (fun h => ?_) <;> (replace h := zB h) <;> (try (exfalso; first | exact h | omega)))
          | (refine zfc Tryz.results12 ?_; (try dsimp only)))
        apply V.lpF [10, 9, 4, 11, 44, 45, 46, 47, 48, 49, 50, 51, 52, 53, 54, 55, 56, 57, 58, 59, 60, 61, 62, 63, 64, 65, 66, 67, 68, 69, 70, 71, 72, 73, 74, 75, 76, 77, 78, 79, 80, 81, 82, 83] (fun k xs => ∃ (i : Nat) (g : _), xs = .v (.int .i64 i) :: .v (.int .i64 (padsR (R.take i))) :: g ∧ k = R.length - i ∧ i ≤ R.length) R.length
        focus (intro xs; simp only [putMany, set2, Nat.reduceAdd, Nat.reduceDiv, Nat.reduceMod, nth_zero, nth_succ, List.set_cons_zero, List.set_cons_succ]; rfl)
        focus (first | rfl | simp only [readMany, nth_zero, nth_succ, Nat.reduceDiv, Nat.reduceMod])
        · exact ⟨0, _, rfl, rfl, Nat.zero_le _⟩
        · rintro k xs ⟨i, g, rfl, rfl, hi⟩
          by_cases hlt : i < R.length
          · have hmem : R.getD i noRw ∈ R := by rw [List.getD_eq_getElem?_getD, List.getElem?_eq_getElem hlt]; exact List.getElem_mem hlt
            have hC : SlH H0 3 (bOf rs i) (cesA (R.getD i noRw).1) := .inl (hRP.sl i hlt)
            have hpt := padsR_take R i hlt
            have hple := padsR_le R (i + 1)
            obtain ⟨hwd2, _⟩ := hall _ hmem
            have hatr := hat _ hmem
            generalize hrr : (R.getD i noRw).1 = r at *
            generalize hrw2 : (R.getD i noRw).2 = wr at *
            repeat' (first
             | refine zka ?_
             | refine zkb ?_
             | (apply RKp.op; ((try simp (disch := (first | omega | exact zX | exact zO | fail)) only [lenR 0 hRA hRP, ixR 0 hRA hRP, faR 0 hRA, lcR 0 hRA hRP, lwR 0 hRA hRP, hrw2, Int.toNat_natCast, go_sem, Nat.reduceDiv, Nat.reduceMod, Nat.reduceAdd, Nat.reduceSub, Nat.reduceEqDiff, Nat.reduceLeDiff, Nat.reduceLT, Nat.reduceMul, reduceIte, Nat.reducePow, Int.reduceEq]); exact zL); rfl)
             | refine zkc ?_
             | apply RKg.tt
             | apply RKg.ff
             | refine zkd ?_
             | refine zke ?_
             | refine zkf ?_
             | (refine RKg.split (fun h => ?_) (fun h => ?_) <;> (try rw [h]) <;> (replace h := zB h) <;> (try (exfalso; first | exact h | omega)))
             | apply RK.nil
             | apply V.sq
             | apply V.bl
             | apply V.sc
             | apply V.skip
             | apply V.label
             | apply V.ret
             | apply V.exit
             | apply SeqQ.normal
             | apply SeqQ.ret
             | apply SeqQ.exit
             | apply BlockQ.normal
             | apply BlockQ.ret
             | apply BlockQ.here
             | refine zbt ?_
             | apply LoopS.ret
             | apply LoopS.exit
             | apply LoopF.ret
             | apply LoopF.exit
             | apply V.regK
              | refine zva ?_
             | refine zvb ?_
             | refine zgc ?_
             | refine zvd ?_
             | refine zve ?_
             | (refine zvf (fun h => ?_) (fun h => ?_) <;> (replace h := zB h) <;> (try (exfalso; first | exact h | omega)))
              | (refine zfc Tryz.results12 ?_; (try dsimp only)))
            apply V.lpF [11, 9, 4, 50, 51, 52, 53, 54, 55, 56, 57, 58, 59, 60, 61, 62, 63, 64, 65, 66, 67, 68, 69, 70, 71, 72, 73, 74, 75, 76, 77, 78, 79, 80, 81, 82, 83] (fun k xs => ∃ (j : Nat) (g : _), xs = .v (.int .i64 j) :: .v (.int .i64 (padsR (R.take i) + padsC (r.take j) : Nat)) :: g ∧ k = r.length - j ∧ j ≤ r.length) r.length
            focus (intro xs; simp only [putMany, set2, Nat.reduceAdd, Nat.reduceDiv, Nat.reduceMod, nth_zero, nth_succ, List.set_cons_zero, List.set_cons_succ]; rfl)
            focus (first | rfl | simp only [readMany, nth_zero, nth_succ, Nat.reduceDiv, Nat.reduceMod])
            · exact ⟨0, _, rfl, rfl, Nat.zero_le _⟩
            · rintro k xs ⟨j, g, rfl, rfl, hj⟩
              by_cases hlt2 : j < r.length
              · have hpj := pads_take r j hlt2
                have hpl2 := padsC_le r (j + 1)
                by_cases hpp : r.getD j zeroC = padC
                · obtain ⟨q1, q2⟩ := hatr j hlt2 hpp
                  rw [if_pos hpp] at hpj
                  have e2 : ((padsR (R.take i) + padsC (r.take j) : Nat) : Int) + 1 = (padsR (R.take i) + padsC (r.take (j + 1)) : Nat) := by rw [hpj]; omega
                  repeat' (first
                   | refine zka ?_
                   | refine zkb ?_
                   | (apply RKp.op; ((try simp (disch := (first | omega | exact zX | exact zO | fail)) only [lenR 0 hRA hRP, ixR 0 hRA hRP, faR 0 hRA, lcR 0 hRA hRP, lwR 0 hRA hRP, hrw2, len_cell _ hC, ix_cell _ hC, ld_cell _ hC, Int.toNat_natCast, hrw2, eqC1, hpp, e2, go_sem, Nat.reduceDiv, Nat.reduceMod, Nat.reduceAdd, Nat.reduceSub, Nat.reduceEqDiff, Nat.reduceLeDiff, Nat.reduceLT, Nat.reduceMul, reduceIte, Nat.reducePow, Int.reduceEq]); exact zL); rfl)
                   | (apply RKp.call; (apply refPad_run <;> (exact zD)); rfl)
                   | refine zkc ?_
                   | apply RKg.tt
                   | apply RKg.ff
                   | refine zkd ?_
                   | refine zke ?_
                   | refine zkf ?_
                   | (refine RKg.split (fun h => ?_) (fun h => ?_) <;> (try rw [h]) <;> (replace h := zB h) <;> (try (exfalso; first | exact h | omega)))
                   | apply RK.nil
                   | apply V.sq
                   | apply V.bl
                   | apply V.sc
                   | apply V.skip
                   | apply V.label
                   | apply V.ret
                   | apply V.exit
                   | apply SeqQ.normal
                   | apply SeqQ.ret
                   | apply SeqQ.exit
                   | apply BlockQ.normal
                   | apply BlockQ.ret
                   | apply BlockQ.here
                   | refine zbt ?_
                   | apply LoopS.ret
                   | apply LoopS.exit
                   | apply LoopF.ret
                   | apply LoopF.exit
                   | apply V.regK
                    | refine zva ?_
                   | refine zvb ?_
                   | refine zgc ?_
                   | refine zvd ?_
                   | refine zve ?_
                   | (refine zvf (fun h => ?_) (fun h => ?_) <;> (replace h := zB h) <;> (try (exfalso; first | exact h | omega)))
                    | (refine zfc Tryz.results12 ?_; (try dsimp only)))
                  all_goals first
                    | (exfalso; omega)
                    | exact LoopF.again (r.length - (j + 1)) (by rfl) (by omega) ⟨j + 1, _, rfl, rfl, by omega⟩
                    | (exfalso; rename_i h; rw [q2] at h; cases h)
                    | trace_state
                · have s3 : ¬ ((r.getD j zeroC).r = 0 ∧ (r.getD j zeroC).w = 1 ∧ (r.getD j zeroC).a = 0) := fun h => hpp (Ce.eqv.2 h)
                  rw [if_neg hpp, Nat.add_zero] at hpj
                  have hbb : (((r.getD j zeroC).r == 0 && ((r.getD j zeroC).w == 1 && ((r.getD j zeroC).a == 0 && true))) != false) = false := by
                    rw [Bool.eq_false_iff]; intro z; apply s3; simpa using z
                  repeat' (first
                   | refine zka ?_
                   | refine zkb ?_
                   | (apply RKp.op; ((try simp (disch := (first | omega | exact zX | exact zO | fail)) only [lenR 0 hRA hRP, ixR 0 hRA hRP, faR 0 hRA, lcR 0 hRA hRP, lwR 0 hRA hRP, hrw2, len_cell _ hC, ix_cell _ hC, ld_cell _ hC, Int.toNat_natCast, hrw2, eqC1, hbb, go_sem, Nat.reduceDiv, Nat.reduceMod, Nat.reduceAdd, Nat.reduceSub, Nat.reduceEqDiff, Nat.reduceLeDiff, Nat.reduceLT, Nat.reduceMul, reduceIte, Nat.reducePow, Int.reduceEq]); exact zL); rfl)
                   | (apply RKp.call; (apply refPad_run <;> (exact zD)); rfl)
                   | refine zkc ?_
                   | apply RKg.tt
                   | apply RKg.ff
                   | refine zkd ?_
                   | refine zke ?_
                   | refine zkf ?_
                   | (refine RKg.split (fun h => ?_) (fun h => ?_) <;> (try rw [h]) <;> (replace h := zB h) <;> (try (exfalso; first | exact h | omega)))
                   | apply RK.nil
                   | apply V.sq
                   | apply V.bl
                   | apply V.sc
                   | apply V.skip
                   | apply V.label
                   | apply V.ret
                   | apply V.exit
                   | apply SeqQ.normal
                   | apply SeqQ.ret
                   | apply SeqQ.exit
                   | apply BlockQ.normal
                   | apply BlockQ.ret
                   | apply BlockQ.here
                   | refine zbt ?_
                   | apply LoopS.ret
                   | apply LoopS.exit
                   | apply LoopF.ret
                   | apply LoopF.exit
                   | apply V.regK
                    | refine zva ?_
                   | refine zvb ?_
                   | refine zgc ?_
                   | refine zvd ?_
                   | refine zve ?_
                   | (refine zvf (fun h => ?_) (fun h => ?_) <;> (replace h := zB h) <;> (try (exfalso; first | exact h | omega)))
                    | (refine zfc Tryz.results12 ?_; (try dsimp only)))
                  all_goals first
                    | (exfalso; omega)
                    | exact LoopF.again (r.length - (j + 1)) (by rfl) (by omega) ⟨j + 1, _, by rw [hpj]; rfl, rfl, by omega⟩
                    | (exfalso; rename_i q; rw [hbb] at q; cases q)
                    | (exfalso; rename_i q _; rw [hbb] at q; cases q)
                    | (exfalso; rename_i q _ _; rw [hbb] at q; cases q)
                    | trace_state
              · have e : j = r.length := by omega
                subst e
                rw [List.take_length] at *
                repeat' (first
                 | refine zka ?_
                 | refine zkb ?_
                 | (apply RKp.op; ((try simp (disch := (first | omega | exact zX | exact zO | fail)) only [lenR 0 hRA hRP, ixR 0 hRA hRP, faR 0 hRA, lcR 0 hRA hRP, lwR 0 hRA hRP, hrw2, len_cell _ hC, Int.toNat_natCast, go_sem, Nat.reduceDiv, Nat.reduceMod, Nat.reduceAdd, Nat.reduceSub, Nat.reduceEqDiff, Nat.reduceLeDiff, Nat.reduceLT, Nat.reduceMul, reduceIte, Nat.reducePow, Int.reduceEq]); exact zL); rfl)
                 | refine zkc ?_
                 | apply RKg.tt
                 | apply RKg.ff
                 | refine zkd ?_
                 | refine zke ?_
                 | refine zkf ?_
                 | (refine RKg.split (fun h => ?_) (fun h => ?_) <;> (try rw [h]) <;> (replace h := zB h) <;> (try (exfalso; first | exact h | omega)))
                 | apply RK.nil
                 | apply V.sq
                 | apply V.bl
                 | apply V.sc
                 | apply V.skip
                 | apply V.label
                 | apply V.ret
                 | apply V.exit
                 | apply SeqQ.normal
                 | apply SeqQ.ret
                 | apply SeqQ.exit
                 | apply BlockQ.normal
                 | apply BlockQ.ret
                 | apply BlockQ.here
                 | refine zbt ?_
                 | apply LoopS.ret
                 | apply LoopS.exit
                 | apply LoopF.ret
                 | apply LoopF.exit
                 | apply V.regK
                  | refine zva ?_
                 | refine zvb ?_
                 | refine zgc ?_
                 | refine zvd ?_
                 | refine zve ?_
                 | (refine zvf (fun h => ?_) (fun h => ?_) <;> (replace h := zB h) <;> (try (exfalso; first | exact h | omega)))
                  | (refine zfc Tryz.results12 ?_; (try dsimp only)))
                exact LoopF.again (R.length - (i + 1)) (by rfl) (by omega) ⟨i + 1, _, by rw [hpt]; rfl, rfl, by omega⟩
          · have e : i = R.length := by omega
            subst e
            rw [List.take_length] at *
            repeat' (first
             | refine zka ?_
             | refine zkb ?_
             | (apply RKp.op; ((try simp (disch := (first | omega | exact zX | exact zO | fail)) only [lenR 0 hRA hRP, hc1, go_sem, Nat.reduceDiv, Nat.reduceMod, Nat.reduceAdd, Nat.reduceSub, Nat.reduceEqDiff, Nat.reduceLeDiff, Nat.reduceLT, Nat.reduceMul, reduceIte, Nat.reducePow, Int.reduceEq]); exact zL); rfl)
             | refine zkc ?_
             | apply RKg.tt
             | apply RKg.ff
             | refine zkd ?_
             | refine zke ?_
             | refine zkf ?_
             | (refine RKg.split (fun h => ?_) (fun h => ?_) <;> (try rw [h]) <;> (replace h := zB h) <;> (try (exfalso; first | exact h | omega)))
             | apply RK.nil
             | apply V.sq
             | apply V.bl
             | apply V.sc
             | apply V.skip
             | apply V.label
             | apply V.ret
             | apply V.exit
             | apply SeqQ.normal
             | apply SeqQ.ret
             | apply SeqQ.exit
             | apply BlockQ.normal
             | apply BlockQ.ret
             | apply BlockQ.here
             | refine zbt ?_
             | apply LoopS.ret
             | apply LoopS.exit
             | apply LoopF.ret
             | apply LoopF.exit
             | apply V.regK
              | refine zva ?_
             | refine zvb ?_
             | refine zgc ?_
             | refine zvd ?_
             | refine zve ?_
             | (refine zvf (fun h => ?_) (fun h => ?_) <;> (replace h := zB h) <;> (try (exfalso; first | exact h | omega)))
              | (refine zfc Tryz.results12 ?_; (try dsimp only)))
            have hfin : ((padsR R : Nat) : Int) < max (1 : Int) ((R.length : Nat) : Int) := by omega
            simp only [hfin, decide_true, cond_true]
  · simp only [decide_eq_false hg] at hLi
    refine zvin Tryz.func12 Tryz.ntmps12 ?_
    repeat' (first
     | refine zka ?_
     | refine zkb ?_
     | (apply RKp.op; ((try simp (disch := (first | omega | exact zX | exact zO | fail)) only [slh, len0, hmm, hmt, hcB, hw0, go_sem, Nat.reduceDiv, Nat.reduceMod, Nat.reduceAdd, Nat.reduceSub, Nat.reduceEqDiff, Nat.reduceLeDiff, Nat.reduceLT, Nat.reduceMul, reduceIte, Nat.reducePow, Int.reduceEq]); exact zL); rfl)
     | (apply RKp.call; (apply hbe <;> (exact zD)); rfl)
     | (apply RKp.callR; ((first | apply hbe | apply hLi) <;> (exact zD)); rfl; intro tr htr)
     | (apply RKp.callO; (apply hbe <;> (exact zD)); rfl; intro tr)
     | (apply RKp.callRE; (apply hbe <;> (exact zD)); (intro x; rfl))
     | (apply RKp.callE; (apply hbe <;> (exact zD)); (intro x; rfl))
     | refine zkc ?_
     | apply RKg.tt
     | apply RKg.ff
     | refine zkd ?_
     | refine zke ?_
     | refine zkf ?_
     | (refine RKg.split (fun h => ?_) (fun h => ?_) <;> (try rw [h]) <;> (replace h := zB h) <;> (try (exfalso; first | exact h | omega)))
     | apply RK.nil
     | apply V.sq
     | apply V.bl
     | apply V.sc
     | apply V.skip
     | apply V.label
     | apply V.ret
     | apply V.exit
     | apply SeqQ.normal
     | apply SeqQ.ret
     | apply SeqQ.exit
     | apply BlockQ.normal
     | apply BlockQ.ret
     | apply BlockQ.here
     | refine zbt ?_
     | apply LoopS.ret
     | apply LoopS.exit
     | apply LoopF.ret
     | apply LoopF.exit
     | apply V.regK
      | refine zva ?_
     | refine zvb ?_
     | refine zgc ?_
     | refine zvd ?_
     | refine zve ?_
     | (refine zvf (fun h => ?_) (fun h => ?_) <;> (replace h := zB h) <;> (try (exfalso; first | exact h | omega)))
      | (refine zfc Tryz.results12 ?_; (try dsimp only)))
    trace_state
end
end Go.Am
