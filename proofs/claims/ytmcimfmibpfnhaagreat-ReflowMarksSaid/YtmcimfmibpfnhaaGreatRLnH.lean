
/- Spots: the reference's. -/
import Derived.Test.YtmcimfmibpfnhaaGreatRLnS
import Derived.Test.YtmcimfmibpfnhaaGreatRLnJ
set_option linter.all false
set_option linter.deprecated false
namespace Go.Am
variable {oc : Orc} [OrcI oc]
open Go.Proofs
set_option maxRecDepth 8000
set_option maxHeartbeats 8000000
theorem isSig_row {l : List Ce} (hG : rowG l) {j : Nat} (hj : j < l.length) : isSig (l.getD j zeroC) = true ↔ 0 < (l.getD j zeroC).w ∧ ¬ ((l.getD j zeroC).r = 0 ∧ (l.getD j zeroC).w = 1 ∧ (l.getD j zeroC).a = 0) := by
  have hm := (hG.2 j hj).1
  unfold isSig
  rw [decide_eq_true_eq]
  have hw : (l.getD j zeroC).w = 0 ∨ (l.getD j zeroC).w = 1 ∨ (l.getD j zeroC).w = 2 := by
    rcases hm.2 with h | h | ⟨h | h, _⟩
    · exact .inr (.inl h.2.1)
    · exact .inl h.1
    · exact .inr (.inl h)
    · exact .inr (.inr h)
  constructor
  · rintro ⟨h1, h2⟩
    exact ⟨by omega, fun z => h2 (Ce.eqv.2 z)⟩
  · rintro ⟨h1, h2⟩
    exact ⟨by omega, fun z => h2 (Ce.eqv.1 z)⟩
section
variable {ys : List (Nat × LRec)} {lo : Nat} {H : AHeap} {A : AV} {es : List (List AV)} {rows : List Rw}
theorem refSpot_run (hA : SlH H 2 A es) (hr : RsP es rows) (hrl : rows.length < 2 ^ 11) (pr pc : Int) : CallRo (ELo oc) ys lo 32 [A, .agg [.v (.int .i64 pr), .v (.int .i64 pc)]] H (.agg [.v (.int .i64 ((spotL rows pr pc).1 : Nat)), .v (.int .i64 ((spotL rows pr pc).2.1 : Nat)), .v (.int .i64 ((spotL rows pr pc).2.2 : Nat))]) := by
  refine WC.pureR rfl fun lo' H' hh => ?_
  have hA' := hA.two (.inr ⟨[], .inr (by simp)⟩) hh
  have hlo := lo_two hh
  by_cases hok : 0 ≤ pr ∧ pr < rows.length
  · obtain ⟨o1, o2⟩ := hok
    obtain ⟨i, rfl⟩ : ∃ i : Nat, pr = i := ⟨pr.toNat, by omega⟩
    have hi0 : i < rows.length := by omega
    have hsp : spotL rows i pc = if ((joinL rows).getD (ofN rows i).1 []).length < offL rows i pc then ((ofN rows i).1, ((joinL rows).getD (ofN rows i).1 []).length, offL rows i pc - ((joinL rows).getD (ofN rows i).1 []).length)
        else ((ofN rows i).1, offL rows i pc, 0) := if_pos ⟨o1, o2⟩
    rw [hsp]
    have hOf := fun ys G (x : Ext H' G) => refOf_run (ys := ys) (lo := lo') (hA'.ext x) hr (by omega)
    have hJ := fun ys G (x : Ext H' G) => refJoin_run (ys := ys) (lo := lo') (hA'.ext x) hr hrl
    have ixI : ∀ G z, 0 ≤ z → z < (rows.length : Int) → primL lo' G (indexAddrA (ELo oc) 59 (intA (lineN rows rows.length)) (.v (.int .i64 z))) = some (ixA (intA (lineN rows rows.length)) (intE (lineN rows rows.length)) z.toNat, G, ⟨0, 0, 0⟩) := fun G z z0 z1 => by
      rw [ix_SlH (ELo oc) lo' 59 .i64 z (.inl (intA_Sl _)) (by kernel_rfl) z0 (by rw [intE_len, lineN_len]; exact z1), rdTr_Sl (intA_Sl _)]
    have ldI : ∀ G j, j < rows.length → primL lo' G (loadA (ELo oc) 3 (ixA (intA (lineN rows rows.length)) (intE (lineN rows rows.length)) j)) = some (.v (.int .i64 ((ofN rows j).1 : Nat)), G, ⟨0, 0, 0⟩) := fun G j hj => by
      rw [load_SlH (ELo oc) lo' 3 j (.inl (intA_Sl _)) (by rw [intE_len, lineN_len]; exact hj), nth_intE _ _ (by rw [lineN_len]; exact hj), lineN_at _ _ _ hj, rdTr_Sl (intA_Sl _)]; rfl
    have ixO : ∀ G z, 0 ≤ z → z < (rows.length : Int) → primL lo' G (indexAddrA (ELo oc) 59 (intA (offN rows rows.length)) (.v (.int .i64 z))) = some (ixA (intA (offN rows rows.length)) (intE (offN rows rows.length)) z.toNat, G, ⟨0, 0, 0⟩) := fun G z z0 z1 => by
      rw [ix_SlH (ELo oc) lo' 59 .i64 z (.inl (intA_Sl _)) (by kernel_rfl) z0 (by rw [intE_len, offN_len]; exact z1), rdTr_Sl (intA_Sl _)]
    have ldO : ∀ G j, j < rows.length → primL lo' G (loadA (ELo oc) 3 (ixA (intA (offN rows rows.length)) (intE (offN rows rows.length)) j)) = some (.v (.int .i64 ((ofN rows j).2 : Nat)), G, ⟨0, 0, 0⟩) := fun G j hj => by
      rw [load_SlH (ELo oc) lo' 3 j (.inl (intA_Sl _)) (by rw [intE_len, offN_len]; exact hj), nth_intE _ _ (by rw [offN_len]; exact hj), offN_at _ _ _ hj, rdTr_Sl (intA_Sl _)]; rfl
    generalize intA (lineN rows rows.length) = LI at *
    generalize intE (lineN rows rows.length) = LE at *
    generalize intA (offN rows rows.length) = OI at *
    generalize intE (offN rows rows.length) = OE at *
    have hRow := fun ys G => Row_R (ys := ys) (lo := lo') (H := G) (wr := (rows.getD i noRw).2) (.inl (hr.sl i hi0)) (by have := hr.lt i hi0; omega) (hr.r32 i hi0)
    have hbi := ofN_bd rows i (by omega)
    have hbs := hr.sl i hi0
    have hbl := hr.lt i hi0
    have hz2 := rdTr_Sl hbs
    have hC : ∀ G, SlH G 3 (bOf es i) (cesA (rows.getD i noRw).1) := fun G => .inl hbs
    have hoL : offL rows i pc = (ofN rows i).2 + (sigL ((sndR (rows.getD i noRw)).1.take (colOf (sndR (rows.getD i noRw)).1 pc))).length := rfl
    have hln := hr.len
    by_cases hG : rowG (rows.getD i noRw).1
    · have hsn : (sndR (rows.getD i noRw)).1 = (rows.getD i noRw).1 := by rw [sndR_ok hG]
      rw [hsn] at hoL
      simp only [decide_eq_true hG] at hRow
      generalize hwr : (rows.getD i noRw).2 = wr at *
      have h300 := hG.1
      generalize hlv : (rows.getD i noRw).1 = l at *
      have ldr : ∀ G, Ext H' G → primL lo' G (loadA (ELo oc) 48 (ixA A es i)) = some (.agg [bOf es i, .v (.bool wr)], G, rdTr A) := fun G hG2 => by
        have := ldR lo' hA' hr G hG2 i hi0
        rw [hwr] at this; exact this
      obtain ⟨c0, hc0, hc1⟩ : ∃ c0 : Nat, max 0 (min pc (l.length : Int)) = c0 ∧ c0 ≤ l.length := ⟨(max 0 (min pc (l.length : Int))).toNat, by omega, by omega⟩
      have hc2 : (min (max pc 0) (l.length : Int)).toNat = c0 := by omega
      have hcol : colOf l pc = if c0 < l.length ∧ (l.getD c0 zeroC).w = 0 then c0 - 1 else c0 := by
        unfold colOf; rw [hc2]
      have lnl : ∀ G, primL lo' G (builtinA (ELo oc) .len #[41] 3 [bOf es i]) = some (.v (.int .i64 l.length), G, ⟨0, 0, 0⟩) := fun G => by rw [len_cell lo' (hC G), hz2]
      have ixl : ∀ G (z : Int), 0 ≤ z → z < l.length → primL lo' G (indexAddrA (ELo oc) 41 (bOf es i) (.v (.int .i64 z))) = some (ixA (bOf es i) (cesA l) z.toNat, G, ⟨0, 0, 0⟩) := fun G z z0 z1 => by rw [ix_cell lo' (hC G) .i64 z z0 z1, hz2]
      have fal := fun G => fa_cell lo' (hC G)
      have lfl := fun G => lf_w lo' (hC G)
      have ldl : ∀ G j, j < l.length → primL lo' G (loadA (ELo oc) 52 (ixA (bOf es i) (cesA l) j)) = some (.agg [.v (.int .i32 (l.getD j zeroC).r), .v (.int .i64 (l.getD j zeroC).w), .v (.int .i64 (l.getD j zeroC).a)], G, ⟨0, 0, 0⟩) := fun G j hj => by rw [ld_cell lo' (hC G) j hj, hz2]
      refine zvin Tryz.func32 Tryz.ntmps32 ?_
      repeat' (first | refine zka ?_ | refine zkb ?_ | (apply RKp.op; ((try simp (disch := (first | omega | exact zX | exact zO | fail)) only [lenR lo' hA' hr, ixR lo' hA' hr, ldr, ixO, ldO, lnl, hc0, Int.toNat_natCast, go_sem, Nat.reduceDiv, Nat.reduceMod, Nat.reduceAdd, Nat.reduceSub, Nat.reduceEqDiff, Nat.reduceLeDiff, Nat.reduceLT, Nat.reduceMul, reduceIte, Nat.reducePow, Int.reduceEq]); exact zL); rfl) | (apply RKp.callR; ((first | apply hOf | apply hRow) <;> (exact zD)); rfl; intro tr htr) | refine zkc ?_ | apply RKg.tt | apply RKg.ff | refine zkd ?_ | refine zke ?_ | refine zkf ?_ | (refine RKg.split (fun h => ?_) (fun h => ?_) <;> (try rw [h]) <;> (replace h := zB h) <;> (try (exfalso; first | exact h | omega))) | apply RK.nil | apply V.sq | apply V.bl | apply V.sc | apply V.skip | apply V.label | apply V.ret | apply V.exit | apply SeqQ.normal | apply SeqQ.ret | apply SeqQ.exit | apply BlockQ.normal | apply BlockQ.ret | apply BlockQ.here | refine zbt ?_ | apply LoopS.ret | apply LoopS.exit | apply LoopF.ret | apply LoopF.exit | apply V.regK | refine zva ?_ | refine zvb ?_ | refine zgc ?_ | refine zvd ?_ | refine zve ?_ | (refine zvf (fun h => ?_) (fun h => ?_) <;> (replace h := zB h) <;> (try (exfalso; first | exact h | omega))) | (refine FnQ.retB (resc Tryz.results32) (by simp (disch := (first | omega | exact zX | exact zO | fail)) only [cellR_op, lenR lo' hA' hr, ixR lo' hA' hr, ldr, ixO, ldO, lnl, hc0, Int.toNat_natCast, go_sem, Nat.reduceDiv, Nat.reduceMod, Nat.reduceAdd, Nat.reduceSub, Nat.reduceEqDiff, Nat.reduceLeDiff, Nat.reduceLT, Nat.reduceMul, reduceIte, Nat.reducePow, Int.reduceEq]; rfl) ?_; (try dsimp only)))
      apply V.lpS [10, 8, 11, 50, 51, 52, 53, 54, 55, 56, 57, 58, 59, 60, 61, 62, 63, 64, 65, 66, 67, 68, 69] (fun k xs H2 => ∃ (j n : Nat) (g : _), xs = .v (.int .i64 j) :: .v (.int .i64 n) :: g ∧ k = c0 - j ∧ j ≤ c0 ∧ n = (ofN rows i).2 + (sigL (l.take j)).length ∧ Ext H' H2 ∧ H'.next + 3 ≤ H2.next ∧ H2.get H'.next = some (poBlk i pc) ∧ H2.get (H'.next + 1) = some (spBlk 0 0 0) ∧ H2.get (H'.next + 1 + 1) = some ⟨48, 2, 0, [[bOf es i, .v (.bool wr)]], none⟩) c0
      focus (intro xs; simp only [putMany, set2, Nat.reduceAdd, Nat.reduceDiv, Nat.reduceMod, nth_zero, nth_succ, List.set_cons_zero, List.set_cons_succ]; rfl)
      focus (first | rfl | simp only [readMany, nth_zero, nth_succ, Nat.reduceDiv, Nat.reduceMod])
      · exact ⟨0, _, _, rfl, rfl, Nat.zero_le _, rfl, by exact zX, by (first | omega | (simp only [next_push, next_set, next_empty]; done) | (simp only [next_push, next_set, next_empty]; omega)), by simp (disch := (first | omega | exact zX | fail)) only [get_set, get_push, next_push, next_set, if_pos', if_neg', if_true, if_false, reduceIte], by simp (disch := (first | omega | exact zX | fail)) only [get_set, get_push, next_push, next_set, if_pos', if_neg', if_true, if_false, reduceIte], by simp (disch := (first | omega | exact zX | fail)) only [get_set, get_push, next_push, next_set, if_pos', if_neg', if_true, if_false, reduceIte]⟩
      · rintro k xs H2 ⟨j, n, g, rfl, rfl, hj, hn, hx, hn2, g0, g1, g2⟩
        have hs3 := sigL_len (l.take j)
        rw [List.length_take] at hs3
        by_cases hlt : j < c0
        · have hst := sigL_take (l := l) (i := j) (by omega)
          have hsig := isSig_row hG (j := j) (by omega)
          have ldj := fun G => ldl G j (by omega)
          by_cases hs : isSig (l.getD j zeroC) = true
          · obtain ⟨s1, s2⟩ := hsig.1 hs
            rw [if_pos hs] at hst
            repeat' (first | refine zka ?_ | refine zkb ?_ | (apply RKp.op; ((try simp (disch := (first | omega | exact zX | exact zO | fail)) only [g0, g1, g2, ixl, ldj, eqC1, Int.toNat_natCast, go_sem, Nat.reduceDiv, Nat.reduceMod, Nat.reduceAdd, Nat.reduceSub, Nat.reduceEqDiff, Nat.reduceLeDiff, Nat.reduceLT, Nat.reduceMul, reduceIte, Nat.reducePow, Int.reduceEq]); exact zL); rfl) | (apply RKp.call; (apply refPad_run <;> (exact zD)); rfl) | refine zkc ?_ | apply RKg.tt | apply RKg.ff | refine zkd ?_ | refine zke ?_ | refine zkf ?_ | (refine RKg.split (fun h => ?_) (fun h => ?_) <;> (try rw [h]) <;> (replace h := zB h) <;> (try (exfalso; first | exact h | omega))) | apply RK.nil | apply V.sq | apply V.bl | apply V.sc | apply V.skip | apply V.label | apply V.ret | apply V.exit | apply SeqQ.normal | apply SeqQ.ret | apply SeqQ.exit | apply BlockQ.normal | apply BlockQ.ret | apply BlockQ.here | refine zbt ?_ | apply LoopS.ret | apply LoopS.exit | apply LoopF.ret | apply LoopF.exit | apply V.regK | refine zva ?_ | refine zvb ?_ | refine zgc ?_ | refine zvd ?_ | refine zve ?_ | (refine zvf (fun h => ?_) (fun h => ?_) <;> (replace h := zB h) <;> (try (exfalso; first | exact h | omega))) | (refine FnQ.retB (resc Tryz.results32) (by simp (disch := (first | omega | exact zX | exact zO | fail)) only [cellR_op, g0, g1, g2, ixl, ldj, eqC1, Int.toNat_natCast, go_sem, Nat.reduceDiv, Nat.reduceMod, Nat.reduceAdd, Nat.reduceSub, Nat.reduceEqDiff, Nat.reduceLeDiff, Nat.reduceLT, Nat.reduceMul, reduceIte, Nat.reducePow, Int.reduceEq]; rfl) ?_; (try dsimp only)))
            all_goals first
              | (exfalso; omega)
              | exact LoopS.again (c0 - (j + 1)) (by rfl) (by omega) ⟨j + 1, n + 1, _, rfl, rfl, by omega, by rw [hst, List.length_append, List.length_singleton]; omega, by exact zX, by (first | omega | (simp only [next_push, next_set, next_empty]; done) | (simp only [next_push, next_set, next_empty]; omega)), by simp (disch := (first | omega | exact zX | fail)) only [get_set, get_push, next_push, next_set, if_pos', if_neg', if_true, if_false, reduceIte]; exact g0, by simp (disch := (first | omega | exact zX | fail)) only [get_set, get_push, next_push, next_set, if_pos', if_neg', if_true, if_false, reduceIte]; exact g1, by simp (disch := (first | omega | exact zX | fail)) only [get_set, get_push, next_push, next_set, if_pos', if_neg', if_true, if_false, reduceIte]; exact g2⟩
              | trace_state
          · have hsn2 : ¬ (0 < (l.getD j zeroC).w ∧ ¬ ((l.getD j zeroC).r = 0 ∧ (l.getD j zeroC).w = 1 ∧ (l.getD j zeroC).a = 0)) := fun z => hs (hsig.2 z)
            rw [if_neg hs, List.append_nil] at hst
            repeat' (first | refine zka ?_ | refine zkb ?_ | (apply RKp.op; ((try simp (disch := (first | omega | exact zX | exact zO | fail)) only [g0, g1, g2, ixl, ldj, eqC1, Int.toNat_natCast, go_sem, Nat.reduceDiv, Nat.reduceMod, Nat.reduceAdd, Nat.reduceSub, Nat.reduceEqDiff, Nat.reduceLeDiff, Nat.reduceLT, Nat.reduceMul, reduceIte, Nat.reducePow, Int.reduceEq]); exact zL); rfl) | (apply RKp.call; (apply refPad_run <;> (exact zD)); rfl) | refine zkc ?_ | apply RKg.tt | apply RKg.ff | refine zkd ?_ | refine zke ?_ | refine zkf ?_ | (refine RKg.split (fun h => ?_) (fun h => ?_) <;> (try rw [h]) <;> (replace h := zB h) <;> (try (exfalso; first | exact h | omega))) | apply RK.nil | apply V.sq | apply V.bl | apply V.sc | apply V.skip | apply V.label | apply V.ret | apply V.exit | apply SeqQ.normal | apply SeqQ.ret | apply SeqQ.exit | apply BlockQ.normal | apply BlockQ.ret | apply BlockQ.here | refine zbt ?_ | apply LoopS.ret | apply LoopS.exit | apply LoopF.ret | apply LoopF.exit | apply V.regK | refine zva ?_ | refine zvb ?_ | refine zgc ?_ | refine zvd ?_ | refine zve ?_ | (refine zvf (fun h => ?_) (fun h => ?_) <;> (replace h := zB h) <;> (try (exfalso; first | exact h | omega))) | (refine FnQ.retB (resc Tryz.results32) (by simp (disch := (first | omega | exact zX | exact zO | fail)) only [cellR_op, g0, g1, g2, ixl, ldj, eqC1, Int.toNat_natCast, go_sem, Nat.reduceDiv, Nat.reduceMod, Nat.reduceAdd, Nat.reduceSub, Nat.reduceEqDiff, Nat.reduceLeDiff, Nat.reduceLT, Nat.reduceMul, reduceIte, Nat.reducePow, Int.reduceEq]; rfl) ?_; (try dsimp only)))
            all_goals first
              | (exfalso; omega)
              | exact LoopS.again (c0 - (j + 1)) (by rfl) (by omega) ⟨j + 1, n, _, rfl, rfl, by omega, by rw [hst]; exact hn, by exact zX, by (first | omega | (simp only [next_push, next_set, next_empty]; done) | (simp only [next_push, next_set, next_empty]; omega)), by simp (disch := (first | omega | exact zX | fail)) only [get_set, get_push, next_push, next_set, if_pos', if_neg', if_true, if_false, reduceIte]; exact g0, by simp (disch := (first | omega | exact zX | fail)) only [get_set, get_push, next_push, next_set, if_pos', if_neg', if_true, if_false, reduceIte]; exact g1, by simp (disch := (first | omega | exact zX | fail)) only [get_set, get_push, next_push, next_set, if_pos', if_neg', if_true, if_false, reduceIte]; exact g2⟩
              | trace_state
        · have e : j = c0 := by omega
          subst e
          have hlt2 := ofN_lt hi0
          by_cases hw0 : j < l.length ∧ (l.getD j zeroC).w = 0
          · have hwb := sig_before hG hw0.1 hw0.2
            rw [if_pos hw0] at hcol
            rw [hcol] at hoL
            obtain ⟨hw1, hw2⟩ := hw0
            have hoff : (n : Int) - 1 = (offL rows i pc : Int) := by omega
            repeat' (first | refine zka ?_ | refine zkb ?_ | (apply RKp.op; ((try simp (disch := (first | omega | exact zX | exact zO | fail)) only [g0, g1, g2, lnl, ixl, fal, lfl, Int.toNat_natCast, hoff, go_sem, Nat.reduceDiv, Nat.reduceMod, Nat.reduceAdd, Nat.reduceSub, Nat.reduceEqDiff, Nat.reduceLeDiff, Nat.reduceLT, Nat.reduceMul, reduceIte, Nat.reducePow, Int.reduceEq]); exact zL); rfl) | (apply RKp.callRE; (apply hJ <;> (exact zD)); (intro x; rfl)) | refine zkc ?_ | apply RKg.tt | apply RKg.ff | refine zkd ?_ | refine zke ?_ | refine zkf ?_ | (refine RKg.split (fun h => ?_) (fun h => ?_) <;> (try rw [h]) <;> (replace h := zB h) <;> (try (exfalso; first | exact h | omega))) | apply RK.nil | apply V.sq | apply V.bl | apply V.sc | apply V.skip | apply V.label | apply V.ret | apply V.exit | apply SeqQ.normal | apply SeqQ.ret | apply SeqQ.exit | apply BlockQ.normal | apply BlockQ.ret | apply BlockQ.here | refine zbt ?_ | apply LoopS.ret | apply LoopS.exit | apply LoopF.ret | apply LoopF.exit | apply V.regK | refine zva ?_ | refine zvb ?_ | refine zgc ?_ | refine zvd ?_ | refine zve ?_ | (refine zvf (fun h => ?_) (fun h => ?_) <;> (replace h := zB h) <;> (try (exfalso; first | exact h | omega))) | (refine FnQ.retB (resc Tryz.results32) (by simp (disch := (first | omega | exact zX | exact zO | fail)) only [cellR_op, g0, g1, g2, lnl, ixl, fal, lfl, Int.toNat_natCast, hoff, go_sem, Nat.reduceDiv, Nat.reduceMod, Nat.reduceAdd, Nat.reduceSub, Nat.reduceEqDiff, Nat.reduceLeDiff, Nat.reduceLT, Nat.reduceMul, reduceIte, Nat.reducePow, Int.reduceEq]; rfl) ?_; (try dsimp only)))
            all_goals first
              | (exfalso; omega)
              | skip
            rintro u tru htru ⟨els, hu, hls⟩
            have hux : SlH H2 1 u els := .inl hu
            have hln2 := fun G => len_cell lo' (H := G) (.inl (hls.sl _ hlt2))
            have hK40 := hls.lt _ hlt2
            generalize hK : ((joinL rows).getD (ofN rows i).1 []).length = K at *
            by_cases hcmp : K < offL rows i pc
            · rw [if_pos hcmp]
              repeat' (first | refine zka ?_ | refine zkb ?_ | (apply RKp.op; ((try simp (disch := (first | omega | exact zX | exact zO | fail)) only [g0, g1, ixI, ldI, lenL lo' hux hls, ixL lo' hux hls, ldL lo' hux hls, hln2, hoff, Int.toNat_natCast, go_sem, Nat.reduceDiv, Nat.reduceMod, Nat.reduceAdd, Nat.reduceSub, Nat.reduceEqDiff, Nat.reduceLeDiff, Nat.reduceLT, Nat.reduceMul, reduceIte, Nat.reducePow, Int.reduceEq]); exact zL); rfl) | refine zkc ?_ | apply RKg.tt | apply RKg.ff | refine zkd ?_ | refine zke ?_ | refine zkf ?_ | (refine RKg.split (fun h => ?_) (fun h => ?_) <;> (try rw [h]) <;> (replace h := zB h) <;> (try (exfalso; first | exact h | omega))) | apply RK.nil | apply V.sq | apply V.bl | apply V.sc | apply V.skip | apply V.label | apply V.ret | apply V.exit | apply SeqQ.normal | apply SeqQ.ret | apply SeqQ.exit | apply BlockQ.normal | apply BlockQ.ret | apply BlockQ.here | refine zbt ?_ | apply LoopS.ret | apply LoopS.exit | apply LoopF.ret | apply LoopF.exit | apply V.regK | refine zva ?_ | refine zvb ?_ | refine zgc ?_ | refine zvd ?_ | refine zve ?_ | (refine zvf (fun h => ?_) (fun h => ?_) <;> (replace h := zB h) <;> (try (exfalso; first | exact h | omega))) | (refine FnQ.retB (resc Tryz.results32) (by simp (disch := (first | omega | exact zX | exact zO | fail)) only [cellR_op, g0, g1, ixI, ldI, lenL lo' hux hls, ixL lo' hux hls, ldL lo' hux hls, hln2, hoff, Int.toNat_natCast, go_sem, Nat.reduceDiv, Nat.reduceMod, Nat.reduceAdd, Nat.reduceSub, Nat.reduceEqDiff, Nat.reduceLeDiff, Nat.reduceLT, Nat.reduceMul, reduceIte, Nat.reducePow, Int.reduceEq]; rfl) ?_; (try dsimp only)))
              all_goals first
                | (exfalso; omega)
                | (have e9 : max 0 ((offL rows i pc : Int) - K) = ((offL rows i pc - K : Nat) : Int) := by omega
                   have e8 : min (offL rows i pc : Int) K = (K : Int) := by omega
                   simp only [frzR_agg, List.map_cons, List.map_nil, frzC_v, e9, e8])
                | trace_state
            · rw [if_neg hcmp]
              repeat' (first | refine zka ?_ | refine zkb ?_ | (apply RKp.op; ((try simp (disch := (first | omega | exact zX | exact zO | fail)) only [g0, g1, ixI, ldI, lenL lo' hux hls, ixL lo' hux hls, ldL lo' hux hls, hln2, hoff, Int.toNat_natCast, go_sem, Nat.reduceDiv, Nat.reduceMod, Nat.reduceAdd, Nat.reduceSub, Nat.reduceEqDiff, Nat.reduceLeDiff, Nat.reduceLT, Nat.reduceMul, reduceIte, Nat.reducePow, Int.reduceEq]); exact zL); rfl) | refine zkc ?_ | apply RKg.tt | apply RKg.ff | refine zkd ?_ | refine zke ?_ | refine zkf ?_ | (refine RKg.split (fun h => ?_) (fun h => ?_) <;> (try rw [h]) <;> (replace h := zB h) <;> (try (exfalso; first | exact h | omega))) | apply RK.nil | apply V.sq | apply V.bl | apply V.sc | apply V.skip | apply V.label | apply V.ret | apply V.exit | apply SeqQ.normal | apply SeqQ.ret | apply SeqQ.exit | apply BlockQ.normal | apply BlockQ.ret | apply BlockQ.here | refine zbt ?_ | apply LoopS.ret | apply LoopS.exit | apply LoopF.ret | apply LoopF.exit | apply V.regK | refine zva ?_ | refine zvb ?_ | refine zgc ?_ | refine zvd ?_ | refine zve ?_ | (refine zvf (fun h => ?_) (fun h => ?_) <;> (replace h := zB h) <;> (try (exfalso; first | exact h | omega))) | (refine FnQ.retB (resc Tryz.results32) (by simp (disch := (first | omega | exact zX | exact zO | fail)) only [cellR_op, g0, g1, ixI, ldI, lenL lo' hux hls, ixL lo' hux hls, ldL lo' hux hls, hln2, hoff, Int.toNat_natCast, go_sem, Nat.reduceDiv, Nat.reduceMod, Nat.reduceAdd, Nat.reduceSub, Nat.reduceEqDiff, Nat.reduceLeDiff, Nat.reduceLT, Nat.reduceMul, reduceIte, Nat.reducePow, Int.reduceEq]; rfl) ?_; (try dsimp only)))
              all_goals first
                | (exfalso; omega)
                | (have e9 : max 0 ((offL rows i pc : Int) - K) = 0 := by omega
                   have e8 : min (offL rows i pc : Int) K = (offL rows i pc : Int) := by omega
                   simp only [frzR_agg, List.map_cons, List.map_nil, frzC_v, e9, e8]; rfl)
                | trace_state
          · rw [if_neg hw0] at hcol
            rw [hcol] at hoL
            have hoff : (n : Int) = (offL rows i pc : Int) := by omega
            by_cases hw1 : j < l.length
            · have hw2 : ¬ (l.getD j zeroC).w = 0 := fun z => hw0 ⟨hw1, z⟩
              repeat' (first | refine zka ?_ | refine zkb ?_ | (apply RKp.op; ((try simp (disch := (first | omega | exact zX | exact zO | fail)) only [g0, g1, g2, lnl, ixl, fal, lfl, Int.toNat_natCast, go_sem, Nat.reduceDiv, Nat.reduceMod, Nat.reduceAdd, Nat.reduceSub, Nat.reduceEqDiff, Nat.reduceLeDiff, Nat.reduceLT, Nat.reduceMul, reduceIte, Nat.reducePow, Int.reduceEq]); exact zL); rfl) | (apply RKp.callRE; (apply hJ <;> (exact zD)); (intro x; rfl)) | refine zkc ?_ | apply RKg.tt | apply RKg.ff | refine zkd ?_ | refine zke ?_ | refine zkf ?_ | (refine RKg.split (fun h => ?_) (fun h => ?_) <;> (try rw [h]) <;> (replace h := zB h) <;> (try (exfalso; first | exact h | omega))) | apply RK.nil | apply V.sq | apply V.bl | apply V.sc | apply V.skip | apply V.label | apply V.ret | apply V.exit | apply SeqQ.normal | apply SeqQ.ret | apply SeqQ.exit | apply BlockQ.normal | apply BlockQ.ret | apply BlockQ.here | refine zbt ?_ | apply LoopS.ret | apply LoopS.exit | apply LoopF.ret | apply LoopF.exit | apply V.regK | refine zva ?_ | refine zvb ?_ | refine zgc ?_ | refine zvd ?_ | refine zve ?_ | (refine zvf (fun h => ?_) (fun h => ?_) <;> (replace h := zB h) <;> (try (exfalso; first | exact h | omega))) | (refine FnQ.retB (resc Tryz.results32) (by simp (disch := (first | omega | exact zX | exact zO | fail)) only [cellR_op, g0, g1, g2, lnl, ixl, fal, lfl, Int.toNat_natCast, go_sem, Nat.reduceDiv, Nat.reduceMod, Nat.reduceAdd, Nat.reduceSub, Nat.reduceEqDiff, Nat.reduceLeDiff, Nat.reduceLT, Nat.reduceMul, reduceIte, Nat.reducePow, Int.reduceEq]; rfl) ?_; (try dsimp only)))
              all_goals first
                | (exfalso; omega)
                | skip
              all_goals
                rintro u tru htru ⟨els, hu, hls⟩
                have hux : SlH H2 1 u els := .inl hu
                have hln2 := fun G => len_cell lo' (H := G) (.inl (hls.sl _ hlt2))
                have hK40 := hls.lt _ hlt2
                generalize hK : ((joinL rows).getD (ofN rows i).1 []).length = K at *
                by_cases hcmp : K < offL rows i pc
                · rw [if_pos hcmp]
                  repeat' (first | refine zka ?_ | refine zkb ?_ | (apply RKp.op; ((try simp (disch := (first | omega | exact zX | exact zO | fail)) only [g0, g1, ixI, ldI, lenL lo' hux hls, ixL lo' hux hls, ldL lo' hux hls, hln2, hoff, Int.toNat_natCast, go_sem, Nat.reduceDiv, Nat.reduceMod, Nat.reduceAdd, Nat.reduceSub, Nat.reduceEqDiff, Nat.reduceLeDiff, Nat.reduceLT, Nat.reduceMul, reduceIte, Nat.reducePow, Int.reduceEq]); exact zL); rfl) | refine zkc ?_ | apply RKg.tt | apply RKg.ff | refine zkd ?_ | refine zke ?_ | refine zkf ?_ | (refine RKg.split (fun h => ?_) (fun h => ?_) <;> (try rw [h]) <;> (replace h := zB h) <;> (try (exfalso; first | exact h | omega))) | apply RK.nil | apply V.sq | apply V.bl | apply V.sc | apply V.skip | apply V.label | apply V.ret | apply V.exit | apply SeqQ.normal | apply SeqQ.ret | apply SeqQ.exit | apply BlockQ.normal | apply BlockQ.ret | apply BlockQ.here | refine zbt ?_ | apply LoopS.ret | apply LoopS.exit | apply LoopF.ret | apply LoopF.exit | apply V.regK | refine zva ?_ | refine zvb ?_ | refine zgc ?_ | refine zvd ?_ | refine zve ?_ | (refine zvf (fun h => ?_) (fun h => ?_) <;> (replace h := zB h) <;> (try (exfalso; first | exact h | omega))) | (refine FnQ.retB (resc Tryz.results32) (by simp (disch := (first | omega | exact zX | exact zO | fail)) only [cellR_op, g0, g1, ixI, ldI, lenL lo' hux hls, ixL lo' hux hls, ldL lo' hux hls, hln2, hoff, Int.toNat_natCast, go_sem, Nat.reduceDiv, Nat.reduceMod, Nat.reduceAdd, Nat.reduceSub, Nat.reduceEqDiff, Nat.reduceLeDiff, Nat.reduceLT, Nat.reduceMul, reduceIte, Nat.reducePow, Int.reduceEq]; rfl) ?_; (try dsimp only)))
                  all_goals first
                    | (exfalso; omega)
                    | (have e9 : max 0 ((offL rows i pc : Int) - K) = ((offL rows i pc - K : Nat) : Int) := by omega
                       have e8 : min (offL rows i pc : Int) K = (K : Int) := by omega
                       simp only [frzR_agg, List.map_cons, List.map_nil, frzC_v, e9, e8])
                    | trace_state
                · rw [if_neg hcmp]
                  repeat' (first | refine zka ?_ | refine zkb ?_ | (apply RKp.op; ((try simp (disch := (first | omega | exact zX | exact zO | fail)) only [g0, g1, ixI, ldI, lenL lo' hux hls, ixL lo' hux hls, ldL lo' hux hls, hln2, hoff, Int.toNat_natCast, go_sem, Nat.reduceDiv, Nat.reduceMod, Nat.reduceAdd, Nat.reduceSub, Nat.reduceEqDiff, Nat.reduceLeDiff, Nat.reduceLT, Nat.reduceMul, reduceIte, Nat.reducePow, Int.reduceEq]); exact zL); rfl) | refine zkc ?_ | apply RKg.tt | apply RKg.ff | refine zkd ?_ | refine zke ?_ | refine zkf ?_ | (refine RKg.split (fun h => ?_) (fun h => ?_) <;> (try rw [h]) <;> (replace h := zB h) <;> (try (exfalso; first | exact h | omega))) | apply RK.nil | apply V.sq | apply V.bl | apply V.sc | apply V.skip | apply V.label | apply V.ret | apply V.exit | apply SeqQ.normal | apply SeqQ.ret | apply SeqQ.exit | apply BlockQ.normal | apply BlockQ.ret | apply BlockQ.here | refine zbt ?_ | apply LoopS.ret | apply LoopS.exit | apply LoopF.ret | apply LoopF.exit | apply V.regK | refine zva ?_ | refine zvb ?_ | refine zgc ?_ | refine zvd ?_ | refine zve ?_ | (refine zvf (fun h => ?_) (fun h => ?_) <;> (replace h := zB h) <;> (try (exfalso; first | exact h | omega))) | (refine FnQ.retB (resc Tryz.results32) (by simp (disch := (first | omega | exact zX | exact zO | fail)) only [cellR_op, g0, g1, ixI, ldI, lenL lo' hux hls, ixL lo' hux hls, ldL lo' hux hls, hln2, hoff, Int.toNat_natCast, go_sem, Nat.reduceDiv, Nat.reduceMod, Nat.reduceAdd, Nat.reduceSub, Nat.reduceEqDiff, Nat.reduceLeDiff, Nat.reduceLT, Nat.reduceMul, reduceIte, Nat.reducePow, Int.reduceEq]; rfl) ?_; (try dsimp only)))
                  all_goals first
                    | (exfalso; omega)
                    | (have e9 : max 0 ((offL rows i pc : Int) - K) = 0 := by omega
                       have e8 : min (offL rows i pc : Int) K = (offL rows i pc : Int) := by omega
                       simp only [frzR_agg, List.map_cons, List.map_nil, frzC_v, e9, e8]; rfl)
                    | trace_state
            · repeat' (first | refine zka ?_ | refine zkb ?_ | (apply RKp.op; ((try simp (disch := (first | omega | exact zX | exact zO | fail)) only [g0, g1, g2, lnl, ixl, fal, lfl, Int.toNat_natCast, go_sem, Nat.reduceDiv, Nat.reduceMod, Nat.reduceAdd, Nat.reduceSub, Nat.reduceEqDiff, Nat.reduceLeDiff, Nat.reduceLT, Nat.reduceMul, reduceIte, Nat.reducePow, Int.reduceEq]); exact zL); rfl) | (apply RKp.callRE; (apply hJ <;> (exact zD)); (intro x; rfl)) | refine zkc ?_ | apply RKg.tt | apply RKg.ff | refine zkd ?_ | refine zke ?_ | refine zkf ?_ | (refine RKg.split (fun h => ?_) (fun h => ?_) <;> (try rw [h]) <;> (replace h := zB h) <;> (try (exfalso; first | exact h | omega))) | apply RK.nil | apply V.sq | apply V.bl | apply V.sc | apply V.skip | apply V.label | apply V.ret | apply V.exit | apply SeqQ.normal | apply SeqQ.ret | apply SeqQ.exit | apply BlockQ.normal | apply BlockQ.ret | apply BlockQ.here | refine zbt ?_ | apply LoopS.ret | apply LoopS.exit | apply LoopF.ret | apply LoopF.exit | apply V.regK | refine zva ?_ | refine zvb ?_ | refine zgc ?_ | refine zvd ?_ | refine zve ?_ | (refine zvf (fun h => ?_) (fun h => ?_) <;> (replace h := zB h) <;> (try (exfalso; first | exact h | omega))) | (refine FnQ.retB (resc Tryz.results32) (by simp (disch := (first | omega | exact zX | exact zO | fail)) only [cellR_op, g0, g1, g2, lnl, ixl, fal, lfl, Int.toNat_natCast, go_sem, Nat.reduceDiv, Nat.reduceMod, Nat.reduceAdd, Nat.reduceSub, Nat.reduceEqDiff, Nat.reduceLeDiff, Nat.reduceLT, Nat.reduceMul, reduceIte, Nat.reducePow, Int.reduceEq]; rfl) ?_; (try dsimp only)))
              all_goals first
                | (exfalso; omega)
                | skip
              all_goals
                rintro u tru htru ⟨els, hu, hls⟩
                have hux : SlH H2 1 u els := .inl hu
                have hln2 := fun G => len_cell lo' (H := G) (.inl (hls.sl _ hlt2))
                have hK40 := hls.lt _ hlt2
                generalize hK : ((joinL rows).getD (ofN rows i).1 []).length = K at *
                by_cases hcmp : K < offL rows i pc
                · rw [if_pos hcmp]
                  repeat' (first | refine zka ?_ | refine zkb ?_ | (apply RKp.op; ((try simp (disch := (first | omega | exact zX | exact zO | fail)) only [g0, g1, ixI, ldI, lenL lo' hux hls, ixL lo' hux hls, ldL lo' hux hls, hln2, hoff, Int.toNat_natCast, go_sem, Nat.reduceDiv, Nat.reduceMod, Nat.reduceAdd, Nat.reduceSub, Nat.reduceEqDiff, Nat.reduceLeDiff, Nat.reduceLT, Nat.reduceMul, reduceIte, Nat.reducePow, Int.reduceEq]); exact zL); rfl) | refine zkc ?_ | apply RKg.tt | apply RKg.ff | refine zkd ?_ | refine zke ?_ | refine zkf ?_ | (refine RKg.split (fun h => ?_) (fun h => ?_) <;> (try rw [h]) <;> (replace h := zB h) <;> (try (exfalso; first | exact h | omega))) | apply RK.nil | apply V.sq | apply V.bl | apply V.sc | apply V.skip | apply V.label | apply V.ret | apply V.exit | apply SeqQ.normal | apply SeqQ.ret | apply SeqQ.exit | apply BlockQ.normal | apply BlockQ.ret | apply BlockQ.here | refine zbt ?_ | apply LoopS.ret | apply LoopS.exit | apply LoopF.ret | apply LoopF.exit | apply V.regK | refine zva ?_ | refine zvb ?_ | refine zgc ?_ | refine zvd ?_ | refine zve ?_ | (refine zvf (fun h => ?_) (fun h => ?_) <;> (replace h := zB h) <;> (try (exfalso; first | exact h | omega))) | (refine FnQ.retB (resc Tryz.results32) (by simp (disch := (first | omega | exact zX | exact zO | fail)) only [cellR_op, g0, g1, ixI, ldI, lenL lo' hux hls, ixL lo' hux hls, ldL lo' hux hls, hln2, hoff, Int.toNat_natCast, go_sem, Nat.reduceDiv, Nat.reduceMod, Nat.reduceAdd, Nat.reduceSub, Nat.reduceEqDiff, Nat.reduceLeDiff, Nat.reduceLT, Nat.reduceMul, reduceIte, Nat.reducePow, Int.reduceEq]; rfl) ?_; (try dsimp only)))
                  all_goals first
                    | (exfalso; omega)
                    | (have e9 : max 0 ((offL rows i pc : Int) - K) = ((offL rows i pc - K : Nat) : Int) := by omega
                       have e8 : min (offL rows i pc : Int) K = (K : Int) := by omega
                       simp only [frzR_agg, List.map_cons, List.map_nil, frzC_v, e9, e8])
                    | trace_state
                · rw [if_neg hcmp]
                  repeat' (first | refine zka ?_ | refine zkb ?_ | (apply RKp.op; ((try simp (disch := (first | omega | exact zX | exact zO | fail)) only [g0, g1, ixI, ldI, lenL lo' hux hls, ixL lo' hux hls, ldL lo' hux hls, hln2, hoff, Int.toNat_natCast, go_sem, Nat.reduceDiv, Nat.reduceMod, Nat.reduceAdd, Nat.reduceSub, Nat.reduceEqDiff, Nat.reduceLeDiff, Nat.reduceLT, Nat.reduceMul, reduceIte, Nat.reducePow, Int.reduceEq]); exact zL); rfl) | refine zkc ?_ | apply RKg.tt | apply RKg.ff | refine zkd ?_ | refine zke ?_ | refine zkf ?_ | (refine RKg.split (fun h => ?_) (fun h => ?_) <;> (try rw [h]) <;> (replace h := zB h) <;> (try (exfalso; first | exact h | omega))) | apply RK.nil | apply V.sq | apply V.bl | apply V.sc | apply V.skip | apply V.label | apply V.ret | apply V.exit | apply SeqQ.normal | apply SeqQ.ret | apply SeqQ.exit | apply BlockQ.normal | apply BlockQ.ret | apply BlockQ.here | refine zbt ?_ | apply LoopS.ret | apply LoopS.exit | apply LoopF.ret | apply LoopF.exit | apply V.regK | refine zva ?_ | refine zvb ?_ | refine zgc ?_ | refine zvd ?_ | refine zve ?_ | (refine zvf (fun h => ?_) (fun h => ?_) <;> (replace h := zB h) <;> (try (exfalso; first | exact h | omega))) | (refine FnQ.retB (resc Tryz.results32) (by simp (disch := (first | omega | exact zX | exact zO | fail)) only [cellR_op, g0, g1, ixI, ldI, lenL lo' hux hls, ixL lo' hux hls, ldL lo' hux hls, hln2, hoff, Int.toNat_natCast, go_sem, Nat.reduceDiv, Nat.reduceMod, Nat.reduceAdd, Nat.reduceSub, Nat.reduceEqDiff, Nat.reduceLeDiff, Nat.reduceLT, Nat.reduceMul, reduceIte, Nat.reducePow, Int.reduceEq]; rfl) ?_; (try dsimp only)))
                  all_goals first
                    | (exfalso; omega)
                    | (have e9 : max 0 ((offL rows i pc : Int) - K) = 0 := by omega
                       have e8 : min (offL rows i pc : Int) K = (offL rows i pc : Int) := by omega
                       simp only [frzR_agg, List.map_cons, List.map_nil, frzC_v, e9, e8]; rfl)
                    | trace_state
    · have hsn : (sndR (rows.getD i noRw)).1 = [] := by unfold sndR; rw [if_neg hG]
      rw [hsn] at hoL
      have hoL0 : (sigL (([] : List Ce).take (colOf [] pc))).length = 0 := by rw [List.take_nil]; rfl
      rw [hoL0, Nat.add_zero] at hoL
      simp only [decide_eq_false hG] at hRow
      generalize hwr : (rows.getD i noRw).2 = wr at *
      generalize hlv : (rows.getD i noRw).1 = l at *
      have ldr : ∀ G, Ext H' G → primL lo' G (loadA (ELo oc) 48 (ixA A es i)) = some (.agg [bOf es i, .v (.bool wr)], G, rdTr A) := fun G hG2 => by
        have := ldR lo' hA' hr G hG2 i hi0
        rw [hwr] at this; exact this
      obtain ⟨c0, hc0⟩ : ∃ c0 : Nat, max 0 (min pc (l.length : Int)) = c0 := ⟨(max 0 (min pc (l.length : Int))).toNat, by omega⟩
      have lnl : ∀ G, primL lo' G (builtinA (ELo oc) .len #[41] 3 [bOf es i]) = some (.v (.int .i64 l.length), G, ⟨0, 0, 0⟩) := fun G => by rw [len_cell lo' (hC G), hz2]
      have hlt2 := ofN_lt hi0
      refine zvin Tryz.func32 Tryz.ntmps32 ?_
      repeat' (first | refine zka ?_ | refine zkb ?_ | (apply RKp.op; ((try simp (disch := (first | omega | exact zX | exact zO | fail)) only [lenR lo' hA' hr, ixR lo' hA' hr, ldr, ixO, ldO, lnl, hc0, Int.toNat_natCast, go_sem, Nat.reduceDiv, Nat.reduceMod, Nat.reduceAdd, Nat.reduceSub, Nat.reduceEqDiff, Nat.reduceLeDiff, Nat.reduceLT, Nat.reduceMul, reduceIte, Nat.reducePow, Int.reduceEq]); exact zL); rfl) | (apply RKp.callR; ((first | apply hOf | apply hRow) <;> (exact zD)); rfl; intro tr htr) | refine zkc ?_ | apply RKg.tt | apply RKg.ff | refine zkd ?_ | refine zke ?_ | refine zkf ?_ | (refine RKg.split (fun h => ?_) (fun h => ?_) <;> (try rw [h]) <;> (replace h := zB h) <;> (try (exfalso; first | exact h | omega))) | apply RK.nil | apply V.sq | apply V.bl | apply V.sc | apply V.skip | apply V.label | apply V.ret | apply V.exit | apply SeqQ.normal | apply SeqQ.ret | apply SeqQ.exit | apply BlockQ.normal | apply BlockQ.ret | apply BlockQ.here | refine zbt ?_ | apply LoopS.ret | apply LoopS.exit | apply LoopF.ret | apply LoopF.exit | apply V.regK | refine zva ?_ | refine zvb ?_ | refine zgc ?_ | refine zvd ?_ | refine zve ?_ | (refine zvf (fun h => ?_) (fun h => ?_) <;> (replace h := zB h) <;> (try (exfalso; first | exact h | omega))) | (refine FnQ.retB (resc Tryz.results32) (by simp (disch := (first | omega | exact zX | exact zO | fail)) only [cellR_op, lenR lo' hA' hr, ixR lo' hA' hr, ldr, ixO, ldO, lnl, hc0, Int.toNat_natCast, go_sem, Nat.reduceDiv, Nat.reduceMod, Nat.reduceAdd, Nat.reduceSub, Nat.reduceEqDiff, Nat.reduceLeDiff, Nat.reduceLT, Nat.reduceMul, reduceIte, Nat.reducePow, Int.reduceEq]; rfl) ?_; (try dsimp only)))
      apply V.lpS [10, 8, 11, 50, 51, 52, 53, 54, 55, 56, 57, 58, 59, 60, 61, 62, 63, 64, 65, 66, 67, 68, 69] (fun k xs H2 => ∃ (g : _), xs = .v (.int .i64 0) :: .v (.int .i64 ((ofN rows i).2 : Nat)) :: g ∧ k = 0 ∧ Ext H' H2 ∧ H'.next + 3 ≤ H2.next ∧ H2.get H'.next = some (poBlk i pc) ∧ H2.get (H'.next + 1) = some (spBlk 0 0 0) ∧ H2.get (H'.next + 1 + 1) = some ⟨48, 2, 0, [[bOf es i, .v (.bool wr)]], none⟩) 0
      focus (intro xs; simp only [putMany, set2, Nat.reduceAdd, Nat.reduceDiv, Nat.reduceMod, nth_zero, nth_succ, List.set_cons_zero, List.set_cons_succ]; rfl)
      focus (first | rfl | simp only [readMany, nth_zero, nth_succ, Nat.reduceDiv, Nat.reduceMod])
      · exact ⟨_, rfl, rfl, by exact zX, by (first | omega | (simp only [next_push, next_set, next_empty]; done) | (simp only [next_push, next_set, next_empty]; omega)), by simp (disch := (first | omega | exact zX | fail)) only [get_set, get_push, next_push, next_set, if_pos', if_neg', if_true, if_false, reduceIte], by simp (disch := (first | omega | exact zX | fail)) only [get_set, get_push, next_push, next_set, if_pos', if_neg', if_true, if_false, reduceIte], by simp (disch := (first | omega | exact zX | fail)) only [get_set, get_push, next_push, next_set, if_pos', if_neg', if_true, if_false, reduceIte]⟩
      · rintro k xs H2 ⟨g, rfl, rfl, hx, hn2, g0, g1, g2⟩
        have hoff : ((ofN rows i).2 : Int) = (offL rows i pc : Int) := by omega
        repeat' (first | refine zka ?_ | refine zkb ?_ | (apply RKp.op; ((try simp (disch := (first | omega | exact zX | exact zO | fail)) only [g0, g1, g2, lnl, Int.toNat_natCast, go_sem, Nat.reduceDiv, Nat.reduceMod, Nat.reduceAdd, Nat.reduceSub, Nat.reduceEqDiff, Nat.reduceLeDiff, Nat.reduceLT, Nat.reduceMul, reduceIte, Nat.reducePow, Int.reduceEq]); exact zL); rfl) | (apply RKp.callRE; (apply hJ <;> (exact zD)); (intro x; rfl)) | refine zkc ?_ | apply RKg.tt | apply RKg.ff | refine zkd ?_ | refine zke ?_ | refine zkf ?_ | (refine RKg.split (fun h => ?_) (fun h => ?_) <;> (try rw [h]) <;> (replace h := zB h) <;> (try (exfalso; first | exact h | omega))) | apply RK.nil | apply V.sq | apply V.bl | apply V.sc | apply V.skip | apply V.label | apply V.ret | apply V.exit | apply SeqQ.normal | apply SeqQ.ret | apply SeqQ.exit | apply BlockQ.normal | apply BlockQ.ret | apply BlockQ.here | refine zbt ?_ | apply LoopS.ret | apply LoopS.exit | apply LoopF.ret | apply LoopF.exit | apply V.regK | refine zva ?_ | refine zvb ?_ | refine zgc ?_ | refine zvd ?_ | refine zve ?_ | (refine zvf (fun h => ?_) (fun h => ?_) <;> (replace h := zB h) <;> (try (exfalso; first | exact h | omega))) | (refine FnQ.retB (resc Tryz.results32) (by simp (disch := (first | omega | exact zX | exact zO | fail)) only [cellR_op, g0, g1, g2, lnl, Int.toNat_natCast, go_sem, Nat.reduceDiv, Nat.reduceMod, Nat.reduceAdd, Nat.reduceSub, Nat.reduceEqDiff, Nat.reduceLeDiff, Nat.reduceLT, Nat.reduceMul, reduceIte, Nat.reducePow, Int.reduceEq]; rfl) ?_; (try dsimp only)))
        all_goals first
          | (exfalso; omega)
          | skip
        all_goals
          rintro u tru htru ⟨els, hu, hls⟩
          have hux : SlH H2 1 u els := .inl hu
          have hln2 := fun G => len_cell lo' (H := G) (.inl (hls.sl _ hlt2))
          have hK40 := hls.lt _ hlt2
          generalize hK : ((joinL rows).getD (ofN rows i).1 []).length = K at *
          by_cases hcmp : K < offL rows i pc
          · rw [if_pos hcmp]
            repeat' (first | refine zka ?_ | refine zkb ?_ | (apply RKp.op; ((try simp (disch := (first | omega | exact zX | exact zO | fail)) only [g0, g1, ixI, ldI, lenL lo' hux hls, ixL lo' hux hls, ldL lo' hux hls, hln2, hoff, Int.toNat_natCast, go_sem, Nat.reduceDiv, Nat.reduceMod, Nat.reduceAdd, Nat.reduceSub, Nat.reduceEqDiff, Nat.reduceLeDiff, Nat.reduceLT, Nat.reduceMul, reduceIte, Nat.reducePow, Int.reduceEq]); exact zL); rfl) | refine zkc ?_ | apply RKg.tt | apply RKg.ff | refine zkd ?_ | refine zke ?_ | refine zkf ?_ | (refine RKg.split (fun h => ?_) (fun h => ?_) <;> (try rw [h]) <;> (replace h := zB h) <;> (try (exfalso; first | exact h | omega))) | apply RK.nil | apply V.sq | apply V.bl | apply V.sc | apply V.skip | apply V.label | apply V.ret | apply V.exit | apply SeqQ.normal | apply SeqQ.ret | apply SeqQ.exit | apply BlockQ.normal | apply BlockQ.ret | apply BlockQ.here | refine zbt ?_ | apply LoopS.ret | apply LoopS.exit | apply LoopF.ret | apply LoopF.exit | apply V.regK | refine zva ?_ | refine zvb ?_ | refine zgc ?_ | refine zvd ?_ | refine zve ?_ | (refine zvf (fun h => ?_) (fun h => ?_) <;> (replace h := zB h) <;> (try (exfalso; first | exact h | omega))) | (refine FnQ.retB (resc Tryz.results32) (by simp (disch := (first | omega | exact zX | exact zO | fail)) only [cellR_op, g0, g1, ixI, ldI, lenL lo' hux hls, ixL lo' hux hls, ldL lo' hux hls, hln2, hoff, Int.toNat_natCast, go_sem, Nat.reduceDiv, Nat.reduceMod, Nat.reduceAdd, Nat.reduceSub, Nat.reduceEqDiff, Nat.reduceLeDiff, Nat.reduceLT, Nat.reduceMul, reduceIte, Nat.reducePow, Int.reduceEq]; rfl) ?_; (try dsimp only)))
            all_goals first
              | (exfalso; omega)
              | (have e9 : max 0 ((offL rows i pc : Int) - K) = ((offL rows i pc - K : Nat) : Int) := by omega
                 have e8 : min (offL rows i pc : Int) K = (K : Int) := by omega
                 simp only [frzR_agg, List.map_cons, List.map_nil, frzC_v, e9, e8])
              | trace_state
          · rw [if_neg hcmp]
            repeat' (first | refine zka ?_ | refine zkb ?_ | (apply RKp.op; ((try simp (disch := (first | omega | exact zX | exact zO | fail)) only [g0, g1, ixI, ldI, lenL lo' hux hls, ixL lo' hux hls, ldL lo' hux hls, hln2, hoff, Int.toNat_natCast, go_sem, Nat.reduceDiv, Nat.reduceMod, Nat.reduceAdd, Nat.reduceSub, Nat.reduceEqDiff, Nat.reduceLeDiff, Nat.reduceLT, Nat.reduceMul, reduceIte, Nat.reducePow, Int.reduceEq]); exact zL); rfl) | refine zkc ?_ | apply RKg.tt | apply RKg.ff | refine zkd ?_ | refine zke ?_ | refine zkf ?_ | (refine RKg.split (fun h => ?_) (fun h => ?_) <;> (try rw [h]) <;> (replace h := zB h) <;> (try (exfalso; first | exact h | omega))) | apply RK.nil | apply V.sq | apply V.bl | apply V.sc | apply V.skip | apply V.label | apply V.ret | apply V.exit | apply SeqQ.normal | apply SeqQ.ret | apply SeqQ.exit | apply BlockQ.normal | apply BlockQ.ret | apply BlockQ.here | refine zbt ?_ | apply LoopS.ret | apply LoopS.exit | apply LoopF.ret | apply LoopF.exit | apply V.regK | refine zva ?_ | refine zvb ?_ | refine zgc ?_ | refine zvd ?_ | refine zve ?_ | (refine zvf (fun h => ?_) (fun h => ?_) <;> (replace h := zB h) <;> (try (exfalso; first | exact h | omega))) | (refine FnQ.retB (resc Tryz.results32) (by simp (disch := (first | omega | exact zX | exact zO | fail)) only [cellR_op, g0, g1, ixI, ldI, lenL lo' hux hls, ixL lo' hux hls, ldL lo' hux hls, hln2, hoff, Int.toNat_natCast, go_sem, Nat.reduceDiv, Nat.reduceMod, Nat.reduceAdd, Nat.reduceSub, Nat.reduceEqDiff, Nat.reduceLeDiff, Nat.reduceLT, Nat.reduceMul, reduceIte, Nat.reducePow, Int.reduceEq]; rfl) ?_; (try dsimp only)))
            all_goals first
              | (exfalso; omega)
              | (have e9 : max 0 ((offL rows i pc : Int) - K) = 0 := by omega
                 have e8 : min (offL rows i pc : Int) K = (offL rows i pc : Int) := by omega
                 simp only [frzR_agg, List.map_cons, List.map_nil, frzC_v, e9, e8]; rfl)
              | trace_state
  · have hsp : spotL rows pr pc = (0, 0, 0) := if_neg hok
    rw [hsp]
    refine zvin Tryz.func32 Tryz.ntmps32 ?_
    repeat' (first | refine zka ?_ | refine zkb ?_ | (apply RKp.op; ((try simp (disch := (first | omega | exact zX | exact zO | fail)) only [lenR lo' hA' hr, go_sem, Nat.reduceDiv, Nat.reduceMod, Nat.reduceAdd, Nat.reduceSub, Nat.reduceEqDiff, Nat.reduceLeDiff, Nat.reduceLT, Nat.reduceMul, reduceIte, Nat.reducePow, Int.reduceEq]); exact zL); rfl) | refine zkc ?_ | apply RKg.tt | apply RKg.ff | refine zkd ?_ | refine zke ?_ | refine zkf ?_ | (refine RKg.split (fun h => ?_) (fun h => ?_) <;> (try rw [h]) <;> (replace h := zB h) <;> (try (exfalso; first | exact h | omega))) | apply RK.nil | apply V.sq | apply V.bl | apply V.sc | apply V.skip | apply V.label | apply V.ret | apply V.exit | apply SeqQ.normal | apply SeqQ.ret | apply SeqQ.exit | apply BlockQ.normal | apply BlockQ.ret | apply BlockQ.here | refine zbt ?_ | apply LoopS.ret | apply LoopS.exit | apply LoopF.ret | apply LoopF.exit | apply V.regK | refine zva ?_ | refine zvb ?_ | refine zgc ?_ | refine zvd ?_ | refine zve ?_ | (refine zvf (fun h => ?_) (fun h => ?_) <;> (replace h := zB h) <;> (try (exfalso; first | exact h | omega))) | (refine FnQ.retB (resc Tryz.results32) (by simp (disch := (first | omega | exact zX | exact zO | fail)) only [cellR_op, lenR lo' hA' hr, go_sem, Nat.reduceDiv, Nat.reduceMod, Nat.reduceAdd, Nat.reduceSub, Nat.reduceEqDiff, Nat.reduceLeDiff, Nat.reduceLT, Nat.reduceMul, reduceIte, Nat.reducePow, Int.reduceEq]; rfl) ?_; (try dsimp only)))
    all_goals first
      | (exfalso; omega)
      | rfl
      | trace_state
end
end Go.Am
