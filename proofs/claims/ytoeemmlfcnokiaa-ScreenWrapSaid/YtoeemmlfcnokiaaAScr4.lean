
/- The program's screen: prints, controls, moves. -/
import Derived.Test.YtoeemmlfcnokiaaAScr3
set_option linter.all false
set_option linter.deprecated false
namespace Go.Am
open Go.Proofs
set_option maxRecDepth 8000
set_option maxHeartbeats 4000000
section
variable {ys : List (Nat × LRec)} {lo : Nat} {H : AHeap} {n m e : Nat} {s : Sc}
theorem OutS.keep {H H1 H2 : AHeap} {n m1 m2 : Nat} {x : AV} {l : List Rw} (h : OutS H H1 m1 x l) (k : Fr H1 H2 n m1 m2) (hn : n < H.next) : OutS H H2 m2 x l :=
  ⟨k.ext h.sl fun i hi => by have := h.nw i hi; exact ⟨by omega, this.2⟩, fun i hi => by
    have h1 := h.nw i hi
    refine ⟨h1.1, ?_⟩
    rcases k.nw with e | e
    · rw [e]; exact h1.2
    · rcases h.sl with (rfl | ⟨_, rfl | rfl⟩) | ⟨j, e', off, b, rfl, hj, _⟩
      · obtain ⟨_, _, _, hh⟩ := hi; cases hh
      · obtain ⟨_, _, _, hh⟩ := hi; cases hh
      · obtain ⟨_, _, _, hh⟩ := hi; cases hh
      · obtain ⟨_, _, _, hh⟩ := hi; cases hh; omega⟩
theorem controls_run (hS : SP 73 lo H n m e s) (hg : ScG s) (r : Int) : CallE EA ys lo 37 [.op n 0 0 0, .v (.int .i32 r)] H fun x H' => ∃ m' e', SP 73 lo H' n m' e' (s.ctl r).1 ∧ Fr H H' n m m' ∧ OutS H H' m' x (s.ctl r).2 := by
  have ⟨nl, ml, nn, mn, ne, hb, hm⟩ := hS
  have w2 := hg.w2; have w3 := hg.w3; have c0 := hg.c0; have cw := hg.cw
  have hS1 := hS.turn { s with col := min s.col (s.w - 1) } rfl
  have hg1 := hg.col (c := min s.col (s.w - 1)) (by omega) (by omega)
  have hdn := fun ys => down_run (ys := ys) hS1 hg1
  have hdiv : s.col.tdiv 8 = s.col / 8 := by rw [Int.tdiv_eq_ediv_of_nonneg c0]
  refine WC.effE rfl ?_
  refine zvin Try.func37 Try.ntmps37 ?_
  repeat' (first
   | refine zka ?_
   | refine zkb ?_
   | (apply RKp.op; ((try simp (disch := (first | omega | exact zX | exact zO | fail)) only [hb, hm, nth_rowsA, rowsA_len, rowsA_set, hdiv, go_sem, Nat.reduceDiv, Nat.reduceMod, Nat.reduceAdd, Nat.reduceSub, Nat.reduceEqDiff, Nat.reduceLeDiff, Nat.reduceLT, Nat.reduceMul, reduceIte, Nat.reducePow, Int.reduceEq]); exact zL); rfl)
   | (apply RKp.callE; (apply hdn <;> (exact zD)); (intro x; rfl))
   | refine zkc ?_
   | apply RKg.tt
   | apply RKg.ff
   | refine zkd ?_
   | refine zke ?_
   | refine zkf ?_
   | (refine RKg.split (fun h => ?_) (fun h => ?_) <;> (try rw [h]) <;> (replace h := zB h) <;> (try (exfalso; first | exact h | omega)))
   | apply RK.nil
   | apply V.sq
   | apply V.bl
   | apply V.sc
   | apply V.skip
   | apply V.label
   | apply V.ret
   | apply V.exit
   | apply SeqQ.normal
   | apply SeqQ.ret
   | apply SeqQ.exit
   | apply BlockQ.normal
   | apply BlockQ.ret
   | apply BlockQ.here
   | refine zbt ?_
   | apply LoopS.ret
   | apply LoopS.exit
   | apply LoopF.ret
   | apply LoopF.exit
   | apply V.regK
    | refine zva ?_
   | refine zvb ?_
   | refine zgc ?_
   | refine zvd ?_
   | refine zve ?_
   | (refine zvf (fun h => ?_) (fun h => ?_) <;> (replace h := zB h) <;> (try (exfalso; first | exact h | omega)))
    | (refine zfc Try.results37 ?_; (try dsimp only)))
  · rw [show s.ctl r = (({ s with col := max (s.col - 1) 0 } : Sc), []) by unfold Sc.ctl; rw [if_pos h]]
    exact ⟨m, e, hS.turn { s with col := max (s.col - 1) 0 } rfl, (Fr.refl H n m).setn _, OutS.nil _ _ _⟩
  · rw [show s.ctl r = (({ s with col := min ((s.col / 8 + 1) * 8) (s.w - 1) } : Sc), []) by unfold Sc.ctl; rw [if_neg (by omega), if_pos h]]
    exact ⟨m, e, hS.turn { s with col := min ((s.col / 8 + 1) * 8) (s.w - 1) } rfl, (Fr.refl H n m).setn _, OutS.nil _ _ _⟩
  · rintro x H1 tr ⟨m', e', h1, h2, h3⟩
    repeat' (first
     | refine zka ?_
     | refine zkb ?_
     | (apply RKp.op; ((try simp (disch := (first | omega | exact zX | exact zO | fail)) only [go_sem, Nat.reduceDiv, Nat.reduceMod, Nat.reduceAdd, Nat.reduceSub, Nat.reduceEqDiff, Nat.reduceLeDiff, Nat.reduceLT, Nat.reduceMul, reduceIte, Nat.reducePow, Int.reduceEq]); exact zL); rfl)
     | refine zkc ?_
     | apply RKg.tt
     | apply RKg.ff
     | refine zkd ?_
     | refine zke ?_
     | refine zkf ?_
     | (refine RKg.split (fun h => ?_) (fun h => ?_) <;> (try rw [h]) <;> (replace h := zB h) <;> (try (exfalso; first | exact h | omega)))
     | apply RK.nil
     | apply V.sq
     | apply V.bl
     | apply V.sc
     | apply V.skip
     | apply V.label
     | apply V.ret
     | apply V.exit
     | apply SeqQ.normal
     | apply SeqQ.ret
     | apply SeqQ.exit
     | apply BlockQ.normal
     | apply BlockQ.ret
     | apply BlockQ.here
     | refine zbt ?_
     | apply LoopS.ret
     | apply LoopS.exit
     | apply LoopF.ret
     | apply LoopF.exit
     | apply V.regK
      | refine zva ?_
     | refine zvb ?_
     | refine zgc ?_
     | refine zvd ?_
     | refine zve ?_
     | (refine zvf (fun h => ?_) (fun h => ?_) <;> (replace h := zB h) <;> (try (exfalso; first | exact h | omega)))
      | (refine zfc Try.results37 ?_; (try dsimp only)))
    rw [show s.ctl r = ({ s with col := min s.col (s.w - 1) } : Sc).dn by unfold Sc.ctl; rw [if_neg (by omega), if_neg (by omega), if_pos h]]
    exact ⟨m', e', h1, ((Fr.refl H n m).setn _).trans h2, h3.from (Nat.le_refl _)⟩
  · rw [show s.ctl r = (({ s with col := 0 } : Sc), []) by unfold Sc.ctl; rw [if_neg (by omega), if_neg (by omega), if_neg (by omega), if_pos h]]
    exact ⟨m, e, hS.turn { s with col := 0 } rfl, (Fr.refl H n m).setn _, OutS.nil _ _ _⟩
  · rw [show s.ctl r = (s, []) by unfold Sc.ctl; rw [if_neg (by omega), if_neg (by omega), if_neg (by omega), if_neg (by omega)]]
    exact ⟨m, e, hS, Fr.refl H n m, OutS.nil _ _ _⟩
theorem ofA_ne {r a : Int} (h : ofC r a ≠ []) : ofA r a = .sl 3 (cesA (ofC r a)) := Sl_ne (ofA_Sl r a) (ces_ne h)
theorem set_E (hS : SP 73 lo H n m e s) (hg : ScG s) {B : AV} {c : List Ce} (hB : SlH H 3 B (cesA c)) (hc : c.length < 2 ^ 40) : CallE EA ys lo 55 [.op n 0 0 0, B] H fun x H' => x = .tup [] ∧ SP 73 lo H' n m e (s.put (rowSet s.cur s.col c)) ∧ Fr H H' n m m := by
  obtain ⟨tr, h⟩ := set_run (ys := ys) hS hg hB hc
  exact ⟨_, _, tr, h, rfl, hS.setm _ List.length_set, (Fr.refl H n m).setm _⟩
theorem prints_run (hS : SP 73 lo H n m e s) (hg : ScG s) (r : Int) (hr : -2147483648 ≤ r ∧ r ≤ 2147483647) : CallE EA ys lo 36 [.op n 0 0 0, .v (.int .i32 r)] H fun x H' => ∃ m' e', SP 73 lo H' n m' e' (s.pr r).1 ∧ Fr H H' n m m' ∧ OutS H H' m' x (s.pr r).2 := by
  have ⟨nl, ml, nn, mn, ne, hb, hm⟩ := hS
  have w2 := hg.w2; have w3 := hg.w3; have c0 := hg.c0; have cw := hg.cw; have r0 := hg.r0; have rh := hg.rh; have hlen := hg.len
  have hof := ofC_len r s.attr
  have ho2 := ScG.ofC_le2 r s.attr
  have hA' : SlH H 3 (ofA r s.attr) (cesA (ofC r s.attr)) := .inl (ofA_Sl r s.attr)
  refine WC.effE rfl ?_
  by_cases hl : ofC r s.attr = []
  · have hl0 : (ofC r s.attr).length = 0 := by rw [hl]; rfl
    refine zvin Try.func36 Try.ntmps36 ?_
    repeat' (first
     | refine zka ?_
     | refine zkb ?_
     | (apply RKp.op; ((try simp (disch := (first | omega | exact zX | exact zO | fail)) only [hb, hm, nth_rowsA, rowsA_len, rowsA_set, len_cellX lo hA', hl0, go_sem, Nat.reduceDiv, Nat.reduceMod, Nat.reduceAdd, Nat.reduceSub, Nat.reduceEqDiff, Nat.reduceLeDiff, Nat.reduceLT, Nat.reduceMul, reduceIte, Nat.reducePow, Int.reduceEq]); exact zL); rfl)
     | (apply RKp.call; (apply Of_run <;> (exact zD)); rfl)
     | refine zkc ?_
     | apply RKg.tt
     | apply RKg.ff
     | refine zkd ?_
     | refine zke ?_
     | refine zkf ?_
     | (refine RKg.split (fun h => ?_) (fun h => ?_) <;> (try rw [h]) <;> (replace h := zB h) <;> (try (exfalso; first | exact h | omega)))
     | apply RK.nil
     | apply V.sq
     | apply V.bl
     | apply V.sc
     | apply V.skip
     | apply V.label
     | apply V.ret
     | apply V.exit
     | apply SeqQ.normal
     | apply SeqQ.ret
     | apply SeqQ.exit
     | apply BlockQ.normal
     | apply BlockQ.ret
     | apply BlockQ.here
     | refine zbt ?_
     | apply LoopS.ret
     | apply LoopS.exit
     | apply LoopF.ret
     | apply LoopF.exit
     | apply V.regK
      | refine zva ?_
     | refine zvb ?_
     | refine zgc ?_
     | refine zvd ?_
     | refine zve ?_
     | (refine zvf (fun h => ?_) (fun h => ?_) <;> (replace h := zB h) <;> (try (exfalso; first | exact h | omega)))
      | (refine zfc Try.results36 ?_; (try dsimp only)))
    rw [show s.pr r = (s, []) by unfold Sc.pr; rw [if_pos hl]]
    exact ⟨m, e, hS, Fr.refl H n m, OutS.nil _ _ _⟩
  · have hl0 : (ofC r s.attr).length ≠ 0 := fun h => hl (List.eq_nil_of_length_eq_zero h)
    have hOf := fun ys H => Of_run (ys := ys) (lo := lo) (H := H) r s.attr
    rw [ofA_ne hl] at hOf
    by_cases hw : s.col + (ofC r s.attr).length ≤ s.w
    · have hset := fun ys => set_run (ys := ys) hS hg (B := .sl 3 (cesA (ofC r s.attr))) (.inl (.inl rfl)) hof
      refine zvin Try.func36 Try.ntmps36 ?_
      repeat' (first
       | refine zka ?_
       | refine zkb ?_
       | (apply RKp.op; ((try simp (disch := (first | omega | exact zX | exact zO | fail)) only [hb, hm, nth_rowsA, rowsA_len, rowsA_set, ces_len, go_sem, Nat.reduceDiv, Nat.reduceMod, Nat.reduceAdd, Nat.reduceSub, Nat.reduceEqDiff, Nat.reduceLeDiff, Nat.reduceLT, Nat.reduceMul, reduceIte, Nat.reducePow, Int.reduceEq]); exact zL); rfl)
       | (apply RKp.call; (apply hOf <;> (exact zD)); rfl)
       | (apply RKp.callO; (apply hset <;> (exact zD)); rfl; intro tr)
       | refine zkc ?_
       | apply RKg.tt
       | apply RKg.ff
       | refine zkd ?_
       | refine zke ?_
       | refine zkf ?_
       | (refine RKg.split (fun h => ?_) (fun h => ?_) <;> (try rw [h]) <;> (replace h := zB h) <;> (try (exfalso; first | exact h | omega)))
       | apply RK.nil
       | apply V.sq
       | apply V.bl
       | apply V.sc
       | apply V.skip
       | apply V.label
       | apply V.ret
       | apply V.exit
       | apply SeqQ.normal
       | apply SeqQ.ret
       | apply SeqQ.exit
       | apply BlockQ.normal
       | apply BlockQ.ret
       | apply BlockQ.here
       | refine zbt ?_
       | apply LoopS.ret
       | apply LoopS.exit
       | apply LoopF.ret
       | apply LoopF.exit
       | apply V.regK
        | refine zva ?_
       | refine zvb ?_
       | refine zgc ?_
       | refine zvd ?_
       | refine zve ?_
       | (refine zvf (fun h => ?_) (fun h => ?_) <;> (replace h := zB h) <;> (try (exfalso; first | exact h | omega)))
        | (refine zfc Try.results36 ?_; (try dsimp only)))
      rw [show s.pr r = (s.signs (ofC r s.attr), []) by unfold Sc.pr; rw [if_neg hl, if_pos hw]]
      exact ⟨m, e, (hS.setm _ (List.length_set)).turnL (s.signs (ofC r s.attr)) rfl _ List.length_set, ((Fr.refl H n m).setm _).setn _, OutS.nil _ _ _⟩
    · have hcw : s.col = s.w - 1 ∨ s.col = s.w := by omega
      have hpd := fun ys => set_E (ys := ys) (hS.ext ((Ext.refl H).push ⟨47, 3, 0, [ceA padC], none⟩)) hg (B := .os H.next 0 0 1) (c := [padC]) (.inr ⟨H.next, 0, 0, _, rfl, by rw [next_push]; omega, by rw [get_push, if_pos rfl], rfl, rfl, rfl, by simp, by simp⟩) (by simp)
      have hdn0 := fun ys => down_run (ys := ys) (hS.setm (s.rows.set s.row.toNat (s.cur.1, true)) List.length_set) (hg.put (hg.at_.wr true))
      have hpr : s.pr r = (s.wrapped.1.signs (ofC r s.attr), s.wrapped.2) := by unfold Sc.pr; rw [if_neg hl, if_neg hw]
      rw [hpr]
      unfold Sc.wrapped
      dsimp only
      refine zvin Try.func36 Try.ntmps36 ?_
      repeat' (first
       | refine zka ?_
       | refine zkb ?_
       | (apply RKp.op; ((try simp (disch := (first | omega | exact zX | exact zO | fail)) only [hb, hm, nth_rowsA, rowsA_len, rowsA_set, ces_len, go_sem, Nat.reduceDiv, Nat.reduceMod, Nat.reduceAdd, Nat.reduceSub, Nat.reduceEqDiff, Nat.reduceLeDiff, Nat.reduceLT, Nat.reduceMul, reduceIte, Nat.reducePow, Int.reduceEq]); exact zL); rfl)
       | (apply RKp.call; ((first | apply hOf | apply Pad_run) <;> (exact zD)); rfl)
       | (apply RKp.callE; ((first | apply hpd | apply hdn0) <;> (exact zD)); (intro x; rfl))
       | refine zkc ?_
       | apply RKg.tt
       | apply RKg.ff
       | refine zkd ?_
       | refine zke ?_
       | refine zkf ?_
       | (refine RKg.split (fun h => ?_) (fun h => ?_) <;> (try rw [h]) <;> (replace h := zB h) <;> (try (exfalso; first | exact h | omega)))
       | apply RK.nil
       | apply V.sq
       | apply V.bl
       | apply V.sc
       | apply V.skip
       | apply V.label
       | apply V.ret
       | apply V.exit
       | apply SeqQ.normal
       | apply SeqQ.ret
       | apply SeqQ.exit
       | apply BlockQ.normal
       | apply BlockQ.ret
       | apply BlockQ.here
       | refine zbt ?_
       | apply LoopS.ret
       | apply LoopS.exit
       | apply LoopF.ret
       | apply LoopF.exit
       | apply V.regK
        | refine zva ?_
       | refine zvb ?_
       | refine zgc ?_
       | refine zvd ?_
       | refine zve ?_
       | (refine zvf (fun h => ?_) (fun h => ?_) <;> (replace h := zB h) <;> (try (exfalso; first | exact h | omega)))
        | (refine zfc Try.results36 ?_; (try dsimp only)))
      · rw [if_pos (by omega)]
        rintro x H1 tr ⟨rfl, hS1, hF1⟩
        have hF1' : Fr H H1 n m m := ((Fr.refl H n m).push _).trans hF1
        have hg1 := hg.put (hg.at_.set R32_pad s.col)
        generalize hs1 : s.put (rowSet s.cur s.col [padC]) = s1 at *
        have ew : s1.w = s.w := by rw [← hs1]; rfl
        have ea : s1.attr = s.attr := by rw [← hs1]; rfl
        have hb1 := hS1.blk; have hm1 := hS1.rows
        have nn1 := hS1.nn; have mn1 := hS1.mn
        have r01 := hg1.r0; have rh1 := hg1.rh; have hlen1 := hg1.len
        have hdn1 := fun ys => down_run (ys := ys) (hS1.setm (s1.rows.set s1.row.toNat (s1.cur.1, true)) List.length_set) (hg1.put (hg1.at_.wr true))
        repeat' (first
         | refine zka ?_
         | refine zkb ?_
         | (apply RKp.op; ((try simp (disch := (first | omega | exact zX | exact zO | fail)) only [hb1, hm1, nth_rowsA, rowsA_len, rowsA_set, go_sem, Nat.reduceDiv, Nat.reduceMod, Nat.reduceAdd, Nat.reduceSub, Nat.reduceEqDiff, Nat.reduceLeDiff, Nat.reduceLT, Nat.reduceMul, reduceIte, Nat.reducePow, Int.reduceEq]); exact zL); rfl)
         | (apply RKp.callE; (apply hdn1 <;> (exact zD)); (intro x; rfl))
         | refine zkc ?_
         | apply RKg.tt
         | apply RKg.ff
         | refine zkd ?_
         | refine zke ?_
         | refine zkf ?_
         | (refine RKg.split (fun h => ?_) (fun h => ?_) <;> (try rw [h]) <;> (replace h := zB h) <;> (try (exfalso; first | exact h | omega)))
         | apply RK.nil
         | apply V.sq
         | apply V.bl
         | apply V.sc
         | apply V.skip
         | apply V.label
         | apply V.ret
         | apply V.exit
         | apply SeqQ.normal
         | apply SeqQ.ret
         | apply SeqQ.exit
         | apply BlockQ.normal
         | apply BlockQ.ret
         | apply BlockQ.here
         | refine zbt ?_
         | apply LoopS.ret
         | apply LoopS.exit
         | apply LoopF.ret
         | apply LoopF.exit
         | apply V.regK
          | refine zva ?_
         | refine zvb ?_
         | refine zgc ?_
         | refine zvd ?_
         | refine zve ?_
         | (refine zvf (fun h => ?_) (fun h => ?_) <;> (replace h := zB h) <;> (try (exfalso; first | exact h | omega)))
          | (refine zfc Try.results36 ?_; (try dsimp only)))
        rintro x H2 tr2 ⟨m2, e2, hS2, hF2, hO2⟩
        change SP _ _ _ _ _ _ (Sc.put s1 (Sc.cur s1 |>.1, true)).dn.1 at hS2
        change OutS _ _ _ _ (Sc.put s1 (Sc.cur s1 |>.1, true)).dn.2 at hO2
        obtain ⟨hgd, hod, edw, edh, eda, edc⟩ := (hg1.put (hg1.at_.wr true)).dn
        generalize (Sc.put s1 (Sc.cur s1 |>.1, true)).dn = t at *
        obtain ⟨t, o⟩ := t
        dsimp only at *
        have hS3 := hS2.turn { t with col := 0 } rfl
        have hg3 := hgd.col (c := 0) (Int.le_refl _) (by have := hgd.w2; omega)
        have hset3 := fun ys => set_run (ys := ys) hS3 hg3 (B := .sl 3 (cesA (ofC r s.attr))) (.inl (.inl rfl)) hof
        have hb2 := hS2.blk; have hm2 := hS2.rows
        have nn2 := hS2.nn; have mn2 := hS2.mn; have ne2 := hS2.ne; have nl2 := hS2.nl; have ml2 := hS2.ml
        repeat' (first
         | refine zka ?_
         | refine zkb ?_
         | (apply RKp.op; ((try simp (disch := (first | omega | exact zX | exact zO | fail)) only [hb2, hm2, ces_len, Int.zero_add, go_sem, Nat.reduceDiv, Nat.reduceMod, Nat.reduceAdd, Nat.reduceSub, Nat.reduceEqDiff, Nat.reduceLeDiff, Nat.reduceLT, Nat.reduceMul, reduceIte, Nat.reducePow, Int.reduceEq]); exact zL); rfl)
         | (apply RKp.callO; (apply hset3 <;> (exact zD)); rfl; intro tr)
         | refine zkc ?_
         | apply RKg.tt
         | apply RKg.ff
         | refine zkd ?_
         | refine zke ?_
         | refine zkf ?_
         | (refine RKg.split (fun h => ?_) (fun h => ?_) <;> (try rw [h]) <;> (replace h := zB h) <;> (try (exfalso; first | exact h | omega)))
         | apply RK.nil
         | apply V.sq
         | apply V.bl
         | apply V.sc
         | apply V.skip
         | apply V.label
         | apply V.ret
         | apply V.exit
         | apply SeqQ.normal
         | apply SeqQ.ret
         | apply SeqQ.exit
         | apply BlockQ.normal
         | apply BlockQ.ret
         | apply BlockQ.here
         | refine zbt ?_
         | apply LoopS.ret
         | apply LoopS.exit
         | apply LoopF.ret
         | apply LoopF.exit
         | apply V.regK
          | refine zva ?_
         | refine zvb ?_
         | refine zgc ?_
         | refine zvd ?_
         | refine zve ?_
         | (refine zvf (fun h => ?_) (fun h => ?_) <;> (replace h := zB h) <;> (try (exfalso; first | exact h | omega)))
          | (refine zfc Try.results36 ?_; (try dsimp only)))
        have hS4 := (hS3.setm (t.rows.set t.row.toNat (rowSet ({ t with col := 0 } : Sc).cur 0 (ofC r s.attr))) List.length_set).turnL (({ t with col := 0 } : Sc).signs (ofC r s.attr)) rfl _ List.length_set
        rw [show (({ t with col := 0 } : Sc).signs (ofC r s.attr)).col = (ofC r s.attr).length from Int.zero_add _] at hS4
        have hFa := hF1'.trans (((Fr.refl H1 n m).setm _).trans hF2)
        refine ⟨m2, e2, hS4, ((hFa.setn _).setm _).setn _, ((hO2.keep (((Fr.refl H2 n m2).setn _).setm _ |>.setn _) ?_).from ?_)⟩
        · rw [next_set]; have := hF1'.next; omega
        · rw [next_set]; exact hF1'.next
      · rw [if_neg (by omega)]
        rintro x H2 tr2 ⟨m2, e2, hS2, hF2, hO2⟩
        change SP _ _ _ _ _ _ (Sc.put s (Sc.cur s |>.1, true)).dn.1 at hS2
        change OutS _ _ _ _ (Sc.put s (Sc.cur s |>.1, true)).dn.2 at hO2
        obtain ⟨hgd, hod, edw, edh, eda, edc⟩ := (hg.put (hg.at_.wr true)).dn
        generalize (Sc.put s (Sc.cur s |>.1, true)).dn = t at *
        obtain ⟨t, o⟩ := t
        dsimp only at *
        have hS3 := hS2.turn { t with col := 0 } rfl
        have hg3 := hgd.col (c := 0) (Int.le_refl _) (by have := hgd.w2; omega)
        have hset3 := fun ys => set_run (ys := ys) hS3 hg3 (B := .sl 3 (cesA (ofC r s.attr))) (.inl (.inl rfl)) hof
        have hb2 := hS2.blk; have hm2 := hS2.rows
        have nn2 := hS2.nn; have mn2 := hS2.mn; have ne2 := hS2.ne; have nl2 := hS2.nl; have ml2 := hS2.ml
        repeat' (first
         | refine zka ?_
         | refine zkb ?_
         | (apply RKp.op; ((try simp (disch := (first | omega | exact zX | exact zO | fail)) only [hb2, hm2, ces_len, Int.zero_add, go_sem, Nat.reduceDiv, Nat.reduceMod, Nat.reduceAdd, Nat.reduceSub, Nat.reduceEqDiff, Nat.reduceLeDiff, Nat.reduceLT, Nat.reduceMul, reduceIte, Nat.reducePow, Int.reduceEq]); exact zL); rfl)
         | (apply RKp.callO; (apply hset3 <;> (exact zD)); rfl; intro tr)
         | refine zkc ?_
         | apply RKg.tt
         | apply RKg.ff
         | refine zkd ?_
         | refine zke ?_
         | refine zkf ?_
         | (refine RKg.split (fun h => ?_) (fun h => ?_) <;> (try rw [h]) <;> (replace h := zB h) <;> (try (exfalso; first | exact h | omega)))
         | apply RK.nil
         | apply V.sq
         | apply V.bl
         | apply V.sc
         | apply V.skip
         | apply V.label
         | apply V.ret
         | apply V.exit
         | apply SeqQ.normal
         | apply SeqQ.ret
         | apply SeqQ.exit
         | apply BlockQ.normal
         | apply BlockQ.ret
         | apply BlockQ.here
         | refine zbt ?_
         | apply LoopS.ret
         | apply LoopS.exit
         | apply LoopF.ret
         | apply LoopF.exit
         | apply V.regK
          | refine zva ?_
         | refine zvb ?_
         | refine zgc ?_
         | refine zvd ?_
         | refine zve ?_
         | (refine zvf (fun h => ?_) (fun h => ?_) <;> (replace h := zB h) <;> (try (exfalso; first | exact h | omega)))
          | (refine zfc Try.results36 ?_; (try dsimp only)))
        have hS4 := (hS3.setm (t.rows.set t.row.toNat (rowSet ({ t with col := 0 } : Sc).cur 0 (ofC r s.attr))) List.length_set).turnL (({ t with col := 0 } : Sc).signs (ofC r s.attr)) rfl _ List.length_set
        rw [show (({ t with col := 0 } : Sc).signs (ofC r s.attr)).col = (ofC r s.attr).length from Int.zero_add _] at hS4
        have hFa := (Fr.refl H n m).trans (((Fr.refl H n m).setm _).trans hF2)
        refine ⟨m2, e2, hS4, ((hFa.setn _).setm _).setn _, ((hO2.keep (((Fr.refl H2 n m2).setn _).setm _ |>.setn _) ?_).from ?_)⟩
        · rw [next_set]; have := (Fr.refl H n m).next; omega
        · rw [next_set]; exact (Fr.refl H n m).next
end
end Go.Am
