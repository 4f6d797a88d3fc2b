/- The reference's screen: print. -/
import Derived.Test.YtoeemmlfcnokiaaGreatScr7
set_option linter.all false
set_option linter.deprecated false
namespace Go.Am
open Go.Proofs
set_option maxRecDepth 8000
set_option maxHeartbeats 4000000
section
variable {ys : List (Nat × LRec)} {lo : Nat} {H : AHeap} {n m e : Nat} {s : Sc}
theorem rprint_run (hS : SP 110 lo H n m e s) (hg : ScG s) (r : Int) (hr : -2147483648 ≤ r ∧ r ≤ 2147483647) : CallE EZ ys lo 79 [.op n 0 0 0, .v (.int .i32 r)] H fun x H' => ∃ m' e', SP 110 lo H' n m' e' (s.pr r).1 ∧ Fr H H' n m m' ∧ OutS H H' m' x (s.pr r).2 := by
  have ⟨nl, ml, nn, mn, ne, hb, hm⟩ := hS
  have w2 := hg.w2; have w3 := hg.w3; have c0 := hg.c0; have cw := hg.cw; have r0 := hg.r0; have rh := hg.rh; have hlen := hg.len
  obtain ⟨c1, c2⟩ := hg.curl
  have hof := ofC_len r s.attr
  have ho2 := ScG.ofC_le2 r s.attr
  have hA' : SlH H 3 (ofA r s.attr) (cesA (ofC r s.attr)) := .inl (ofA_Sl r s.attr)
  refine WC.effE rfl ?_
  by_cases hl : ofC r s.attr = []
  · have hl0 : (ofC r s.attr).length = 0 := by rw [hl]; rfl
    have hOf := fun ys H => Cells_run (ys := ys) (lo := lo) (H := H) r s.attr hr
    refine zvin Tryz.func79 Tryz.ntmps79 ?_
    repeat' (first
     | refine zka ?_
     | refine zkb ?_
     | (apply RKp.op; ((try simp (disch := (first | omega | exact zX | exact zO | fail)) only [hb, hm, nth_rowsA, rowsA_len, rowsA_set, List.length_set, len_cellX lo hA', hl0, go_sem, Nat.reduceDiv, Nat.reduceMod, Nat.reduceAdd, Nat.reduceSub, Nat.reduceEqDiff, Nat.reduceLeDiff, Nat.reduceLT, Nat.reduceMul, reduceIte, Nat.reducePow, Int.reduceEq]); exact zL); rfl)
     | (apply RKp.call; (apply hOf <;> (exact zD)); rfl)
     | refine zkc ?_
     | apply RKg.tt
     | apply RKg.ff
     | refine zkd ?_
     | refine zke ?_
     | refine zkf ?_
     | (refine RKg.split (fun h => ?_) (fun h => ?_) <;> (try rw [h]) <;> (replace h := zB h) <;> (try (exfalso; first | exact h | omega)))
     | apply RK.nil
     | apply V.sq
     | apply V.bl
     | apply V.sc
     | apply V.skip
     | apply V.label
     | apply V.ret
     | apply V.exit
     | apply SeqQ.normal
     | apply SeqQ.ret
     | apply SeqQ.exit
     | apply BlockQ.normal
     | apply BlockQ.ret
     | apply BlockQ.here
     | refine zbt ?_
     | apply LoopS.ret
     | apply LoopS.exit
     | apply LoopF.ret
     | apply LoopF.exit
     | apply V.regK
      | refine zva ?_
     | refine zvb ?_
     | refine zgc ?_
     | refine zvd ?_
     | refine zve ?_
     | (refine zvf (fun h => ?_) (fun h => ?_) <;> (replace h := zB h) <;> (try (exfalso; first | exact h | omega)))
      | (refine zfc Tryz.results79 ?_; (try dsimp only)))
    rw [show s.pr r = (s, []) by unfold Sc.pr; rw [if_pos hl]]
    exact ⟨m, e, hS, Fr.refl H n m, OutS.nil _ _ _⟩
  · have hl0 : (ofC r s.attr).length ≠ 0 := fun h => hl (List.eq_nil_of_length_eq_zero h)
    have hOf := fun ys H => Cells_run (ys := ys) (lo := lo) (H := H) r s.attr hr
    rw [ofA_ne hl] at hOf
    by_cases hw : s.col + (ofC r s.attr).length ≤ s.w
    · have hset := fun ys G => refSet_D (ys := ys) (lo := lo) (H := G) (wr := s.cur.2) (B := .sl 3 (cesA (ofC r s.attr))) (.inl (.inl rfl)) c2 c1 hof hg.at_.2.1 (R32_ofC r s.attr hr) s.col (by omega)
      unfold Sc.cur at hset
      refine zvin Tryz.func79 Tryz.ntmps79 ?_
      repeat' (first
       | refine zka ?_
       | refine zkb ?_
       | (apply RKp.op; ((try simp (disch := (first | omega | exact zX | exact zO | fail)) only [hb, hm, nth_rowsA, rowsA_len, rowsA_set, List.length_set, ces_len, go_sem, Nat.reduceDiv, Nat.reduceMod, Nat.reduceAdd, Nat.reduceSub, Nat.reduceEqDiff, Nat.reduceLeDiff, Nat.reduceLT, Nat.reduceMul, reduceIte, Nat.reducePow, Int.reduceEq]); exact zL); rfl)
       | (apply RKp.call; (apply hOf <;> (exact zD)); rfl)
       | (apply RKp.callR; (apply hset <;> (exact zD)); rfl; intro tr htr)
       | refine zkc ?_
       | apply RKg.tt
       | apply RKg.ff
       | refine zkd ?_
       | refine zke ?_
       | refine zkf ?_
       | (refine RKg.split (fun h => ?_) (fun h => ?_) <;> (try rw [h]) <;> (replace h := zB h) <;> (try (exfalso; first | exact h | omega)))
       | apply RK.nil
       | apply V.sq
       | apply V.bl
       | apply V.sc
       | apply V.skip
       | apply V.label
       | apply V.ret
       | apply V.exit
       | apply SeqQ.normal
       | apply SeqQ.ret
       | apply SeqQ.exit
       | apply BlockQ.normal
       | apply BlockQ.ret
       | apply BlockQ.here
       | refine zbt ?_
       | apply LoopS.ret
       | apply LoopS.exit
       | apply LoopF.ret
       | apply LoopF.exit
       | apply V.regK
        | refine zva ?_
       | refine zvb ?_
       | refine zgc ?_
       | refine zvd ?_
       | refine zve ?_
       | (refine zvf (fun h => ?_) (fun h => ?_) <;> (replace h := zB h) <;> (try (exfalso; first | exact h | omega)))
        | (refine zfc Tryz.results79 ?_; (try dsimp only)))
      rw [show s.pr r = (s.signs (ofC r s.attr), []) by unfold Sc.pr; rw [if_neg hl, if_pos hw]]
      exact ⟨m, e, (hS.setm _ (List.length_set)).turnL (s.signs (ofC r s.attr)) rfl _ List.length_set, ((Fr.refl H n m).setm _).setn _, OutS.nil _ _ _⟩
    · have hcw : s.col = s.w - 1 ∨ s.col = s.w := by omega
      have hpd := fun ys => refSet_D (ys := ys) (lo := lo) (H := H.push ⟨61, 3, 0, [ceA padC], none⟩) (wr := s.cur.2) (B := .os H.next 0 0 1) (m := [padC]) (.inr ⟨H.next, 0, 0, _, rfl, by rw [next_push]; omega, by rw [get_push, if_pos rfl], rfl, rfl, rfl, by simp, by simp⟩) c2 c1 (by simp) hg.at_.2.1 R32_pad s.col (by omega)
      unfold Sc.cur at hpd
      have hpr : s.pr r = (s.wrapped.1.signs (ofC r s.attr), s.wrapped.2) := by unfold Sc.pr; rw [if_neg hl, if_neg hw]
      rw [hpr]
      unfold Sc.wrapped
      dsimp only
      by_cases hc : s.col < s.w
      · rw [if_pos hc]
        have hg1 := hg.put (hg.at_.set R32_pad s.col)
        have hS1 := (hS.setm (s.rows.set s.row.toNat (rowSet s.cur s.col [padC])) List.length_set).setm (((s.rows.set s.row.toNat (rowSet s.cur s.col [padC]))).set s.row.toNat (((s.put (rowSet s.cur s.col [padC])).cur).1, true)) List.length_set
        rw [set_set] at hS1
        have hdn1 := fun ys => rdown_run (ys := ys) (hS1.ext ((Ext.refl _).push ⟨61, 3, 0, [ceA padC], none⟩)) (hg1.put (hg1.at_.wr true))
        have hF1' := ((Fr.refl H n m).setm ⟨47, 2, e, rowsA (((s.rows.set s.row.toNat (rowSet s.cur s.col [padC]))).set s.row.toNat (((s.put (rowSet s.cur s.col [padC])).cur).1, true)), none⟩).push ⟨61, 3, 0, [ceA padC], none⟩
        have hnr := fun X => nth_rowsA (s.rows.set s.row.toNat X) s.row.toNat (by rw [List.length_set]; exact hg.lt)
        refine zvin Tryz.func79 Tryz.ntmps79 ?_
        repeat' (first
         | refine zka ?_
         | refine zkb ?_
         | (apply RKp.op; ((try simp (disch := (first | omega | exact zX | exact zO | fail)) only [hnr, hb, hm, nth_rowsA, rowsA_len, rowsA_set, List.length_set, ces_len, go_sem, Nat.reduceDiv, Nat.reduceMod, Nat.reduceAdd, Nat.reduceSub, Nat.reduceEqDiff, Nat.reduceLeDiff, Nat.reduceLT, Nat.reduceMul, reduceIte, Nat.reducePow, Int.reduceEq]); exact zL); rfl)
         | (apply RKp.call; ((first | apply hOf | apply refPad_run) <;> (exact zD)); rfl)
         | (apply RKp.callR; (apply hpd <;> (exact zD)); rfl; intro tr htr)
         | (apply RKp.callE; (apply hdn1 <;> (exact zD)); (intro x; rfl))
         | refine zkc ?_
         | apply RKg.tt
         | apply RKg.ff
         | refine zkd ?_
         | refine zke ?_
         | refine zkf ?_
         | (refine RKg.split (fun h => ?_) (fun h => ?_) <;> (try rw [h]) <;> (replace h := zB h) <;> (try (exfalso; first | exact h | omega)))
         | apply RK.nil
         | apply V.sq
         | apply V.bl
         | apply V.sc
         | apply V.skip
         | apply V.label
         | apply V.ret
         | apply V.exit
         | apply SeqQ.normal
         | apply SeqQ.ret
         | apply SeqQ.exit
         | apply BlockQ.normal
         | apply BlockQ.ret
         | apply BlockQ.here
         | refine zbt ?_
         | apply LoopS.ret
         | apply LoopS.exit
         | apply LoopF.ret
         | apply LoopF.exit
         | apply V.regK
          | refine zva ?_
         | refine zvb ?_
         | refine zgc ?_
         | refine zvd ?_
         | refine zve ?_
         | (refine zvf (fun h => ?_) (fun h => ?_) <;> (replace h := zB h) <;> (try (exfalso; first | exact h | omega)))
          | (refine zfc Tryz.results79 ?_; (try dsimp only)))
        rintro x H2 tr2 ⟨m2, e2, hS2, hF2, hO2⟩
        change SP _ _ _ _ _ _ (Sc.put (s.put (rowSet s.cur s.col [padC])) (Sc.cur (s.put (rowSet s.cur s.col [padC])) |>.1, true)).dn.1 at hS2
        change OutS _ _ _ _ (Sc.put (s.put (rowSet s.cur s.col [padC])) (Sc.cur (s.put (rowSet s.cur s.col [padC])) |>.1, true)).dn.2 at hO2
        obtain ⟨hgd, hod, edw, edh, eda, edc⟩ := (hg1.put (hg1.at_.wr true)).dn
        generalize (Sc.put (s.put (rowSet s.cur s.col [padC])) (Sc.cur (s.put (rowSet s.cur s.col [padC])) |>.1, true)).dn = t at *
        obtain ⟨t, o⟩ := t
        dsimp only at *
        have hS3 := hS2.turn { t with col := 0 } rfl
        have hg3 := hgd.col (c := 0) (Int.le_refl _) (by have := hgd.w2; omega)
        have hb2 := hS2.blk; have hm2 := hS2.rows
        have nn2 := hS2.nn; have mn2 := hS2.mn; have ne2 := hS2.ne; have nl2 := hS2.nl; have ml2 := hS2.ml
        have r02 := hgd.r0; have rh2 := hgd.rh; have hlen2 := hgd.len
        obtain ⟨d1, d2⟩ := hgd.curl
        have hset3 := fun ys G => refSet_D (ys := ys) (lo := lo) (H := G) (wr := t.cur.2) (B := .sl 3 (cesA (ofC r s.attr))) (.inl (.inl rfl)) d2 d1 hof hgd.at_.2.1 (R32_ofC r s.attr hr) 0 (by omega)
        unfold Sc.cur at hset3
        repeat' (first
         | refine zka ?_
         | refine zkb ?_
         | (apply RKp.op; ((try simp (disch := (first | omega | exact zX | exact zO | fail)) only [hb2, hm2, ces_len, Int.zero_add, nth_rowsA, rowsA_len, rowsA_set, List.length_set, go_sem, Nat.reduceDiv, Nat.reduceMod, Nat.reduceAdd, Nat.reduceSub, Nat.reduceEqDiff, Nat.reduceLeDiff, Nat.reduceLT, Nat.reduceMul, reduceIte, Nat.reducePow, Int.reduceEq]); exact zL); rfl)
         | (apply RKp.callR; (apply hset3 <;> (exact zD)); rfl; intro tr htr)
         | refine zkc ?_
         | apply RKg.tt
         | apply RKg.ff
         | refine zkd ?_
         | refine zke ?_
         | refine zkf ?_
         | (refine RKg.split (fun h => ?_) (fun h => ?_) <;> (try rw [h]) <;> (replace h := zB h) <;> (try (exfalso; first | exact h | omega)))
         | apply RK.nil
         | apply V.sq
         | apply V.bl
         | apply V.sc
         | apply V.skip
         | apply V.label
         | apply V.ret
         | apply V.exit
         | apply SeqQ.normal
         | apply SeqQ.ret
         | apply SeqQ.exit
         | apply BlockQ.normal
         | apply BlockQ.ret
         | apply BlockQ.here
         | refine zbt ?_
         | apply LoopS.ret
         | apply LoopS.exit
         | apply LoopF.ret
         | apply LoopF.exit
         | apply V.regK
          | refine zva ?_
         | refine zvb ?_
         | refine zgc ?_
         | refine zvd ?_
         | refine zve ?_
         | (refine zvf (fun h => ?_) (fun h => ?_) <;> (replace h := zB h) <;> (try (exfalso; first | exact h | omega)))
          | (refine zfc Tryz.results79 ?_; (try dsimp only)))
        have hS4 := (hS3.setm (t.rows.set t.row.toNat (rowSet ({ t with col := 0 } : Sc).cur 0 (ofC r s.attr))) List.length_set).turnL (({ t with col := 0 } : Sc).signs (ofC r s.attr)) rfl _ List.length_set
        rw [show (({ t with col := 0 } : Sc).signs (ofC r s.attr)).col = (ofC r s.attr).length from Int.zero_add _] at hS4
        have hFa := hF1'.trans hF2
        refine ⟨m2, e2, hS4, ((hFa.setn _).setm _).setn _, ((hO2.keep (((Fr.refl H2 n m2).setn _).setm _ |>.setn _) ?_).from ?_)⟩
        · have := hF1'.next; omega
        · exact hF1'.next
      · rw [if_neg hc]
        have hdn0 := fun ys => rdown_run (ys := ys) (hS.setm (s.rows.set s.row.toNat (s.cur.1, true)) List.length_set) (hg.put (hg.at_.wr true))
        refine zvin Tryz.func79 Tryz.ntmps79 ?_
        repeat' (first
         | refine zka ?_
         | refine zkb ?_
         | (apply RKp.op; ((try simp (disch := (first | omega | exact zX | exact zO | fail)) only [hb, hm, nth_rowsA, rowsA_len, rowsA_set, List.length_set, ces_len, go_sem, Nat.reduceDiv, Nat.reduceMod, Nat.reduceAdd, Nat.reduceSub, Nat.reduceEqDiff, Nat.reduceLeDiff, Nat.reduceLT, Nat.reduceMul, reduceIte, Nat.reducePow, Int.reduceEq]); exact zL); rfl)
         | (apply RKp.call; (apply hOf <;> (exact zD)); rfl)
         | (apply RKp.callE; (apply hdn0 <;> (exact zD)); (intro x; rfl))
         | refine zkc ?_
         | apply RKg.tt
         | apply RKg.ff
         | refine zkd ?_
         | refine zke ?_
         | refine zkf ?_
         | (refine RKg.split (fun h => ?_) (fun h => ?_) <;> (try rw [h]) <;> (replace h := zB h) <;> (try (exfalso; first | exact h | omega)))
         | apply RK.nil
         | apply V.sq
         | apply V.bl
         | apply V.sc
         | apply V.skip
         | apply V.label
         | apply V.ret
         | apply V.exit
         | apply SeqQ.normal
         | apply SeqQ.ret
         | apply SeqQ.exit
         | apply BlockQ.normal
         | apply BlockQ.ret
         | apply BlockQ.here
         | refine zbt ?_
         | apply LoopS.ret
         | apply LoopS.exit
         | apply LoopF.ret
         | apply LoopF.exit
         | apply V.regK
          | refine zva ?_
         | refine zvb ?_
         | refine zgc ?_
         | refine zvd ?_
         | refine zve ?_
         | (refine zvf (fun h => ?_) (fun h => ?_) <;> (replace h := zB h) <;> (try (exfalso; first | exact h | omega)))
          | (refine zfc Tryz.results79 ?_; (try dsimp only)))
        have hF1' := ((Fr.refl H n m).setm ⟨47, 2, e, rowsA (s.rows.set s.row.toNat (s.cur.1, true)), none⟩)
        have hg1 := hg
        rintro x H2 tr2 ⟨m2, e2, hS2, hF2, hO2⟩
        change SP _ _ _ _ _ _ (Sc.put s (Sc.cur s |>.1, true)).dn.1 at hS2
        change OutS _ _ _ _ (Sc.put s (Sc.cur s |>.1, true)).dn.2 at hO2
        obtain ⟨hgd, hod, edw, edh, eda, edc⟩ := (hg1.put (hg1.at_.wr true)).dn
        generalize (Sc.put s (Sc.cur s |>.1, true)).dn = t at *
        obtain ⟨t, o⟩ := t
        dsimp only at *
        have hS3 := hS2.turn { t with col := 0 } rfl
        have hg3 := hgd.col (c := 0) (Int.le_refl _) (by have := hgd.w2; omega)
        have hb2 := hS2.blk; have hm2 := hS2.rows
        have nn2 := hS2.nn; have mn2 := hS2.mn; have ne2 := hS2.ne; have nl2 := hS2.nl; have ml2 := hS2.ml
        have r02 := hgd.r0; have rh2 := hgd.rh; have hlen2 := hgd.len
        obtain ⟨d1, d2⟩ := hgd.curl
        have hset3 := fun ys G => refSet_D (ys := ys) (lo := lo) (H := G) (wr := t.cur.2) (B := .sl 3 (cesA (ofC r s.attr))) (.inl (.inl rfl)) d2 d1 hof hgd.at_.2.1 (R32_ofC r s.attr hr) 0 (by omega)
        unfold Sc.cur at hset3
        repeat' (first
         | refine zka ?_
         | refine zkb ?_
         | (apply RKp.op; ((try simp (disch := (first | omega | exact zX | exact zO | fail)) only [hb2, hm2, ces_len, Int.zero_add, nth_rowsA, rowsA_len, rowsA_set, List.length_set, go_sem, Nat.reduceDiv, Nat.reduceMod, Nat.reduceAdd, Nat.reduceSub, Nat.reduceEqDiff, Nat.reduceLeDiff, Nat.reduceLT, Nat.reduceMul, reduceIte, Nat.reducePow, Int.reduceEq]); exact zL); rfl)
         | (apply RKp.callR; (apply hset3 <;> (exact zD)); rfl; intro tr htr)
         | refine zkc ?_
         | apply RKg.tt
         | apply RKg.ff
         | refine zkd ?_
         | refine zke ?_
         | refine zkf ?_
         | (refine RKg.split (fun h => ?_) (fun h => ?_) <;> (try rw [h]) <;> (replace h := zB h) <;> (try (exfalso; first | exact h | omega)))
         | apply RK.nil
         | apply V.sq
         | apply V.bl
         | apply V.sc
         | apply V.skip
         | apply V.label
         | apply V.ret
         | apply V.exit
         | apply SeqQ.normal
         | apply SeqQ.ret
         | apply SeqQ.exit
         | apply BlockQ.normal
         | apply BlockQ.ret
         | apply BlockQ.here
         | refine zbt ?_
         | apply LoopS.ret
         | apply LoopS.exit
         | apply LoopF.ret
         | apply LoopF.exit
         | apply V.regK
          | refine zva ?_
         | refine zvb ?_
         | refine zgc ?_
         | refine zvd ?_
         | refine zve ?_
         | (refine zvf (fun h => ?_) (fun h => ?_) <;> (replace h := zB h) <;> (try (exfalso; first | exact h | omega)))
          | (refine zfc Tryz.results79 ?_; (try dsimp only)))
        have hS4 := (hS3.setm (t.rows.set t.row.toNat (rowSet ({ t with col := 0 } : Sc).cur 0 (ofC r s.attr))) List.length_set).turnL (({ t with col := 0 } : Sc).signs (ofC r s.attr)) rfl _ List.length_set
        rw [show (({ t with col := 0 } : Sc).signs (ofC r s.attr)).col = (ofC r s.attr).length from Int.zero_add _] at hS4
        have hFa := hF1'.trans hF2
        refine ⟨m2, e2, hS4, ((hFa.setn _).setm _).setn _, ((hO2.keep (((Fr.refl H2 n m2).setn _).setm _ |>.setn _) ?_).from ?_)⟩
        · have := hF1'.next; omega
        · exact hF1'.next
end
end Go.Am
