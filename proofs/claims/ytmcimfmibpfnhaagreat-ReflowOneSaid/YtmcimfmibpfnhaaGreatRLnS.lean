
/- Spots: the program's. -/
import Derived.Test.YtmcimfmibpfnhaaGreatRLnP
import Derived.Test.YtmcimfmibpfnhaaGreatRLinG
import Derived.Test.YtmcimfmibpfnhaaGreatRLinC
set_option linter.all false
set_option linter.deprecated false
namespace Go.Am
variable {oc : Orc} [OrcI oc]
open Go.Proofs
set_option maxRecDepth 8000
set_option maxHeartbeats 8000000
section
variable {H0 : AHeap} {A : AV} {es : List (List AV)} {rows : List Rw}
theorem getD_cut {α : Type} (l : List α) (d : α) (a b j : Nat) (h : a + j < b) : ((l.drop a).take (b - a)).getD j d = l.getD (a + j) d := by
  rw [List.getD_eq_getElem?_getD, List.getElem?_take, if_pos (by omega), List.getElem?_drop, List.getD_eq_getElem?_getD]
theorem cut_len {α : Type} (l : List α) (a b : Nat) (h2 : b ≤ l.length) : ((l.drop a).take (b - a)).length = b - a := by
  rw [List.length_take, List.length_drop]; omega
theorem lenR_cut (lo : Nat) (hA : SlH H0 2 A es) (hr : RsP es rows) (a b : Nat) (h1 : a ≤ b) (h2 : b ≤ rows.length) (G : AHeap) (hx : Ext H0 G) : primL lo G (builtinA (ELo oc) .len #[22] 3 [cutA A a b]) = some (.v (.int .i64 ((b - a : Nat) : Int)), G, rdTr (cutA A a b)) := by
  have := lenR lo (cutA_SlH hA h1 (by rw [hr.len]; exact h2)) (hr.cut a b h1 h2) G hx
  rw [cut_len rows a b h2] at this; exact this
theorem ixR_cut (lo : Nat) (hA : SlH H0 2 A es) (hr : RsP es rows) (a b : Nat) (h1 : a ≤ b) (h2 : b ≤ rows.length) (G : AHeap) (hx : Ext H0 G) (κ : IntKind) (z : Int) (z0 : 0 ≤ z) (z1 : z < (b - a : Nat)) : primL lo G (indexAddrA (ELo oc) 22 (cutA A a b) (.v (.int κ z))) = some (ixA (cutA A a b) ((es.drop a).take (b - a)) z.toNat, G, rdTr (cutA A a b)) :=
  ixR lo (cutA_SlH hA h1 (by rw [hr.len]; exact h2)) (hr.cut a b h1 h2) G hx κ z z0 (by rw [cut_len rows a b h2]; exact z1)
theorem ldR_cut (lo : Nat) (hA : SlH H0 2 A es) (hr : RsP es rows) (a b : Nat) (h1 : a ≤ b) (h2 : b ≤ rows.length) (G : AHeap) (hx : Ext H0 G) (j : Nat) (h : a + j < b) : primL lo G (loadA (ELo oc) 48 (ixA (cutA A a b) ((es.drop a).take (b - a)) j)) = some (.agg [bOf es (a + j), .v (.bool (rows.getD (a + j) noRw).2)], G, rdTr (cutA A a b)) := by
  have := ldR lo (cutA_SlH hA h1 (by rw [hr.len]; exact h2)) (hr.cut a b h1 h2) G hx j (by rw [cut_len rows a b h2]; omega)
  rw [bOf_cut _ _ _ _ h, getD_cut _ _ _ _ _ h] at this; exact this
end
theorem sndR_G (r : Rw) : rowG (sndR r).1 := by
  unfold sndR
  split
  · rename_i h; exact h
  · exact ⟨Nat.zero_le _, fun i hi => absurd hi (Nat.not_lt_zero _)⟩
section
variable {ys : List (Nat × LRec)} {lo : Nat} {H : AHeap} {A : AV} {es : List (List AV)} {rows : List Rw}
theorem Spot_run (hA : SlH H 2 A es) (hr : RsP es rows) (hrl : rows.length < 2 ^ 20) (pr pc : Int) : CallRo (ELo oc) ys lo 31 [A, .agg [.v (.int .i64 pr), .v (.int .i64 pc)]] H (.agg [.v (.int .i64 ((spotL rows pr pc).1 : Nat)), .v (.int .i64 ((spotL rows pr pc).2.1 : Nat)), .v (.int .i64 ((spotL rows pr pc).2.2 : Nat))]) := by
  refine WC.pureR rfl fun lo' H' hh => ?_
  have hA' := hA.two (.inr ⟨[], .inr (by simp)⟩) hh
  have hlo := lo_two hh
  by_cases hok : 0 ≤ pr ∧ pr < rows.length
  · obtain ⟨o1, o2⟩ := hok
    obtain ⟨i0, rfl⟩ : ∃ i : Nat, pr = i := ⟨pr.toNat, by omega⟩
    have hi0 : i0 < rows.length := by omega
    have hsp : spotL rows i0 pc = if ((joinL rows).getD (ofN rows i0).1 []).length < offL rows i0 pc then ((ofN rows i0).1, ((joinL rows).getD (ofN rows i0).1 []).length, offL rows i0 pc - ((joinL rows).getD (ofN rows i0).1 []).length)
        else ((ofN rows i0).1, offL rows i0 pc, 0) := if_pos ⟨o1, o2⟩
    rw [hsp]
    have hsd : ∀ j, j < rows.length → ∀ ys G, CallRo (ELo oc) ys lo' 70 [rowA (bOf es j) (rows.getD j noRw).2] G (rowA (sndA (bOf es j) (rows.getD j noRw).1) (sndR (rows.getD j noRw)).2) := fun j hj ys G => by
      rw [show (sndR (rows.getD j noRw)).2 = (decide (rowG (rows.getD j noRw).1) && (rows.getD j noRw).2) from sndR_2 _ _]
      exact sound_run (hr.sl j hj) (by have := hr.lt j hj; omega)
    have hsg : ∀ j, j < rows.length → ∀ ys G, CallRo (ELo oc) ys lo' 71 [sndA (bOf es j) (rows.getD j noRw).1] G (slA (sigR (rows.getD j noRw))) := fun j hj ys G => signs_run (.inl (sndA_Sl (hr.sl j hj))) (by have := sndR_len (r := rows.getD j noRw); omega)
    have hlsg : ∀ j G, primL lo' G (builtinA (ELo oc) .len #[41] 3 [slA (sigR (rows.getD j noRw))]) = some (.v (.int .i64 (sigR (rows.getD j noRw)).length), G, rdTr (slA (sigR (rows.getD j noRw)))) := fun j G => len_cell lo' (.inl (slA_Sl _))
    have hfl := firstN_le rows i0
    have hbd := ofN_bd rows i0 (by omega)
    refine zvin Tryz.func31 Tryz.ntmps31 ?_
    repeat' (first
     | refine zka ?_
     | refine zkb ?_
     | (apply RKp.op; ((try simp (disch := (first | omega | exact zX | exact zO | fail)) only [lenR lo' hA' hr, slR_hi lo' hA' hr, lenR_cut lo' hA' hr 0 i0, Int.toNat_natCast, go_sem, Nat.reduceDiv, Nat.reduceMod, Nat.reduceAdd, Nat.reduceSub, Nat.reduceEqDiff, Nat.reduceLeDiff, Nat.reduceLT, Nat.reduceMul, reduceIte, Nat.reducePow, Int.reduceEq]); exact zL); rfl)
     | refine zkc ?_
     | apply RKg.tt
     | apply RKg.ff
     | refine zkd ?_
     | refine zke ?_
     | refine zkf ?_
     | (refine RKg.split (fun h => ?_) (fun h => ?_) <;> (try rw [h]) <;> (replace h := zB h) <;> (try (exfalso; first | exact h | omega)))
     | apply RK.nil
     | apply V.sq
     | apply V.bl
     | apply V.sc
     | apply V.skip
     | apply V.label
     | apply V.ret
     | apply V.exit
     | apply SeqQ.normal
     | apply SeqQ.ret
     | apply SeqQ.exit
     | apply BlockQ.normal
     | apply BlockQ.ret
     | apply BlockQ.here
     | refine zbt ?_
     | apply LoopS.ret
     | apply LoopS.exit
     | apply LoopF.ret
     | apply LoopF.exit
     | apply V.regK
     | refine zvd ?_
     | refine zve ?_
     | (refine zvf (fun h => ?_) (fun h => ?_) <;> (replace h := zB h) <;> (try (exfalso; first | exact h | omega)))
      | (refine FnQ.retB (resc Tryz.results31) (by simp (disch := (first | omega | exact zX | exact zO | fail)) only [cellR_op, lenR lo' hA' hr, slR_hi lo' hA' hr, lenR_cut lo' hA' hr 0 i0, Int.toNat_natCast, go_sem, Nat.reduceDiv, Nat.reduceMod, Nat.reduceAdd, Nat.reduceSub, Nat.reduceEqDiff, Nat.reduceLeDiff, Nat.reduceLT, Nat.reduceMul, reduceIte, Nat.reducePow, Int.reduceEq]; rfl) ?_; (try dsimp only)))
    apply V.lpS [32, 5, 6, 7, 8, 33, 34, 35, 36, 37, 38, 39, 40, 41, 42, 43, 44, 45] (fun k xs H2 => ∃ (i n f : Nat) (g : _), xs = .v (.int .i64 i) :: .v (.int .i64 n) :: .v (.int .i64 f) :: g ∧ k = i0 - i ∧ i ≤ i0 ∧ n = (ofN rows i).1 ∧ f = firstN rows i ∧ Ext H' H2 ∧ H'.next + 2 ≤ H2.next ∧ H2.get H'.next = some (poBlk i0 pc) ∧ H2.get (H'.next + 1) = some (spBlk 0 0 0)) i0
    focus (intro xs; simp only [putMany, set2, Nat.reduceAdd, Nat.reduceDiv, Nat.reduceMod, nth_zero, nth_succ, List.set_cons_zero, List.set_cons_succ]; rfl)
    focus (first | rfl | simp only [readMany, nth_zero, nth_succ, Nat.reduceDiv, Nat.reduceMod])
    · refine ⟨0, 0, 0, _, rfl, rfl, Nat.zero_le _, rfl, rfl, by exact zX, by (first | omega | (simp only [next_push, next_set, next_empty]; done) | (simp only [next_push, next_set, next_empty]; omega)), by simp (disch := (first | omega | exact zX | fail)) only [get_set, get_push, next_push, next_set, if_pos', if_neg', if_true, if_false, reduceIte], by simp (disch := (first | omega | exact zX | fail)) only [get_set, get_push, next_push, next_set, if_pos', if_neg', if_true, if_false, reduceIte]⟩
    · rintro k xs H2 ⟨i, n, f, g, rfl, rfl, hi, hn, hf, hx, hn2, g0, g1⟩
      by_cases hlt : i < i0
      · have hO := ofN_S (rows := rows) (i := i) (by omega)
        have hF := firstN_S rows i
        have hS := hsd i (by omega)
        have ld1 := fun G hG => ldR_cut lo' hA' hr 0 i0 (Nat.zero_le _) (by omega) G hG i (by omega)
        simp only [Nat.zero_add, List.drop_zero] at ld1
        have hbi := ofN_bd rows i (by omega)
        repeat' (first
         | refine zka ?_
         | refine zkb ?_
         | (apply RKp.op; ((try simp (disch := (first | omega | exact zX | exact zO | fail)) only [lenR_cut lo' hA' hr 0 i0, ixR_cut lo' hA' hr 0 i0, ld1, g0, g1, Int.toNat_natCast, go_sem, Nat.reduceDiv, Nat.reduceMod, Nat.reduceAdd, Nat.reduceSub, Nat.reduceEqDiff, Nat.reduceLeDiff, Nat.reduceLT, Nat.reduceMul, reduceIte, Nat.reducePow, Int.reduceEq]); exact zL); rfl)
         | (apply RKp.call; (apply hS <;> (exact zD)); rfl)
         | (apply RKp.callR; (apply hS <;> (exact zD)); rfl; intro tr htr)
         | (apply RKp.callO; (apply hS <;> (exact zD)); rfl; intro tr)
         | (apply RKp.callRE; (apply hS <;> (exact zD)); (intro x; rfl))
         | (apply RKp.callE; (apply hS <;> (exact zD)); (intro x; rfl))
         | refine zkc ?_
         | apply RKg.tt
         | apply RKg.ff
         | refine zkd ?_
         | refine zke ?_
         | refine zkf ?_
         | (refine RKg.split (fun h => ?_) (fun h => ?_) <;> (try rw [h]) <;> (replace h := zB h) <;> (try (exfalso; first | exact h | omega)))
         | apply RK.nil
         | apply V.sq
         | apply V.bl
         | apply V.sc
         | apply V.skip
         | apply V.label
         | apply V.ret
         | apply V.exit
         | apply SeqQ.normal
         | apply SeqQ.ret
         | apply SeqQ.exit
         | apply BlockQ.normal
         | apply BlockQ.ret
         | apply BlockQ.here
         | refine zbt ?_
         | apply LoopS.ret
         | apply LoopS.exit
         | apply LoopF.ret
         | apply LoopF.exit
         | apply V.regK
         | refine zvd ?_
         | refine zve ?_
         | (refine zvf (fun h => ?_) (fun h => ?_) <;> (replace h := zB h) <;> (try (exfalso; first | exact h | omega)))
          | (refine FnQ.retB (resc Tryz.results31) (by simp (disch := (first | omega | exact zX | exact zO | fail)) only [cellR_op, lenR_cut lo' hA' hr 0 i0, ixR_cut lo' hA' hr 0 i0, ld1, g0, g1, Int.toNat_natCast, go_sem, Nat.reduceDiv, Nat.reduceMod, Nat.reduceAdd, Nat.reduceSub, Nat.reduceEqDiff, Nat.reduceLeDiff, Nat.reduceLT, Nat.reduceMul, reduceIte, Nat.reducePow, Int.reduceEq]; rfl) ?_; (try dsimp only)))
        · exact LoopS.again (i0 - (i + 1)) (by rfl) (by omega) ⟨i + 1, n + 1, i + 1, _, rfl, rfl, by omega, by rw [(hO.2 h).1, hn], (hF.2 h).symm, by exact zX, by (first | omega | (simp only [next_push, next_set, next_empty]; done) | (simp only [next_push, next_set, next_empty]; omega)), by simp (disch := (first | omega | exact zX | fail)) only [get_set, get_push, next_push, next_set, if_pos', if_neg', if_true, if_false, reduceIte]; exact g0, by simp (disch := (first | omega | exact zX | fail)) only [get_set, get_push, next_push, next_set, if_pos', if_neg', if_true, if_false, reduceIte]; exact g1⟩
        · exact LoopS.again (i0 - (i + 1)) (by rfl) (by omega) ⟨i + 1, n, f, _, rfl, rfl, by omega, by rw [(hO.1 h).1, hn], by rw [hF.1 h, hf], by exact zX, by (first | omega | (simp only [next_push, next_set, next_empty]; done) | (simp only [next_push, next_set, next_empty]; omega)), by simp (disch := (first | omega | exact zX | fail)) only [get_set, get_push, next_push, next_set, if_pos', if_neg', if_true, if_false, reduceIte]; exact g0, by simp (disch := (first | omega | exact zX | fail)) only [get_set, get_push, next_push, next_set, if_pos', if_neg', if_true, if_false, reduceIte]; exact g1⟩
      · have e : i = i0 := by omega
        subst e
        subst hf hn
        repeat' (first
         | refine zka ?_
         | refine zkb ?_
         | (apply RKp.op; ((try simp (disch := (first | omega | exact zX | exact zO | fail)) only [lenR_cut lo' hA' hr 0 i, g0, g1, slR_lohi lo' hA' hr, lenR_cut lo' hA' hr (firstN rows i) i, Int.toNat_natCast, go_sem, Nat.reduceDiv, Nat.reduceMod, Nat.reduceAdd, Nat.reduceSub, Nat.reduceEqDiff, Nat.reduceLeDiff, Nat.reduceLT, Nat.reduceMul, reduceIte, Nat.reducePow, Int.reduceEq]); exact zL); rfl)
         | refine zkc ?_
         | apply RKg.tt
         | apply RKg.ff
         | refine zkd ?_
         | refine zke ?_
         | refine zkf ?_
         | (refine RKg.split (fun h => ?_) (fun h => ?_) <;> (try rw [h]) <;> (replace h := zB h) <;> (try (exfalso; first | exact h | omega)))
         | apply RK.nil
         | apply V.sq
         | apply V.bl
         | apply V.sc
         | apply V.skip
         | apply V.label
         | apply V.ret
         | apply V.exit
         | apply SeqQ.normal
         | apply SeqQ.ret
         | apply SeqQ.exit
         | apply BlockQ.normal
         | apply BlockQ.ret
         | apply BlockQ.here
         | refine zbt ?_
         | apply LoopS.ret
         | apply LoopS.exit
         | apply LoopF.ret
         | apply LoopF.exit
         | apply V.regK
         | refine zvd ?_
         | refine zve ?_
         | (refine zvf (fun h => ?_) (fun h => ?_) <;> (replace h := zB h) <;> (try (exfalso; first | exact h | omega)))
          | (refine FnQ.retB (resc Tryz.results31) (by simp (disch := (first | omega | exact zX | exact zO | fail)) only [cellR_op, lenR_cut lo' hA' hr 0 i, g0, g1, slR_lohi lo' hA' hr, lenR_cut lo' hA' hr (firstN rows i) i, Int.toNat_natCast, go_sem, Nat.reduceDiv, Nat.reduceMod, Nat.reduceAdd, Nat.reduceSub, Nat.reduceEqDiff, Nat.reduceLeDiff, Nat.reduceLT, Nat.reduceMul, reduceIte, Nat.reducePow, Int.reduceEq]; rfl) ?_; (try dsimp only)))
        have hfo := firstN_off rows i (by omega)
        have hlf := fun e h1 h2 hw he => line_of rows i e hi0 h1 h2 hw he
        generalize hfe : firstN rows i = f at *
        apply V.lpS [52, 9, 11, 53, 54, 55, 56, 57, 58, 59, 60, 61, 62, 63] (fun k xs H3 => ∃ (j o : Nat) (g : _), xs = .v (.int .i64 j) :: .v (.int .i64 o) :: g ∧ k = i - f - j ∧ f + j ≤ i ∧ o = (((rows.take (f + j)).drop f).flatMap sigR).length ∧ o ≤ j * 300 ∧ Ext H' H3 ∧ H'.next + 2 ≤ H3.next ∧ H3.get H'.next = some (poBlk i pc) ∧ H3.get (H'.next + 1) = some (spBlk 0 0 0)) (i - f)
        focus (intro xs; simp only [putMany, set2, Nat.reduceAdd, Nat.reduceDiv, Nat.reduceMod, nth_zero, nth_succ, List.set_cons_zero, List.set_cons_succ]; rfl)
        focus (first | rfl | simp only [readMany, nth_zero, nth_succ, Nat.reduceDiv, Nat.reduceMod])
        · refine ⟨0, 0, _, rfl, rfl, hfl, ?_, Nat.zero_le _, hx, hn2, g0, g1⟩
          rw [Nat.add_zero, List.drop_eq_nil_of_le (by rw [List.length_take]; omega)]; rfl
        · rintro k xs H3 ⟨j, o, g, rfl, rfl, hj, ho, hob, hx3, hn3, k0, k1⟩
          by_cases hlt2 : f + j < i
          · have hS := hsd (f + j) (by omega)
            have hG := hsg (f + j) (by omega)
            have hst := off_step rows f j (by omega)
            have h300 := sigR_300 (rows.getD (f + j) noRw)
            have ld2 := fun G hG => ldR_cut lo' hA' hr f i (by omega) (by omega) G hG j (by omega)
            repeat' (first
             | refine zka ?_
             | refine zkb ?_
             | (apply RKp.op; ((try simp (disch := (first | omega | exact zX | exact zO | fail)) only [lenR_cut lo' hA' hr f i, ixR_cut lo' hA' hr f i, ld2, k0, k1, hlsg, Int.toNat_natCast, go_sem, Nat.reduceDiv, Nat.reduceMod, Nat.reduceAdd, Nat.reduceSub, Nat.reduceEqDiff, Nat.reduceLeDiff, Nat.reduceLT, Nat.reduceMul, reduceIte, Nat.reducePow, Int.reduceEq]); exact zL); rfl)
             | (apply RKp.call; ((first | apply hS | apply hG) <;> (exact zD)); rfl)
             | (apply RKp.callR; ((first | apply hS | apply hG) <;> (exact zD)); rfl; intro tr htr)
             | (apply RKp.callO; ((first | apply hS | apply hG) <;> (exact zD)); rfl; intro tr)
             | (apply RKp.callRE; ((first | apply hS | apply hG) <;> (exact zD)); (intro x; rfl))
             | (apply RKp.callE; ((first | apply hS | apply hG) <;> (exact zD)); (intro x; rfl))
             | refine zkc ?_
             | apply RKg.tt
             | apply RKg.ff
             | refine zkd ?_
             | refine zke ?_
             | refine zkf ?_
             | (refine RKg.split (fun h => ?_) (fun h => ?_) <;> (try rw [h]) <;> (replace h := zB h) <;> (try (exfalso; first | exact h | omega)))
             | apply RK.nil
             | apply V.sq
             | apply V.bl
             | apply V.sc
             | apply V.skip
             | apply V.label
             | apply V.ret
             | apply V.exit
             | apply SeqQ.normal
             | apply SeqQ.ret
             | apply SeqQ.exit
             | apply BlockQ.normal
             | apply BlockQ.ret
             | apply BlockQ.here
             | refine zbt ?_
             | apply LoopS.ret
             | apply LoopS.exit
             | apply LoopF.ret
             | apply LoopF.exit
             | apply V.regK
             | refine zvd ?_
             | refine zve ?_
             | (refine zvf (fun h => ?_) (fun h => ?_) <;> (replace h := zB h) <;> (try (exfalso; first | exact h | omega)))
              | (refine FnQ.retB (resc Tryz.results31) (by simp (disch := (first | omega | exact zX | exact zO | fail)) only [cellR_op, lenR_cut lo' hA' hr f i, ixR_cut lo' hA' hr f i, ld2, k0, k1, hlsg, Int.toNat_natCast, go_sem, Nat.reduceDiv, Nat.reduceMod, Nat.reduceAdd, Nat.reduceSub, Nat.reduceEqDiff, Nat.reduceLeDiff, Nat.reduceLT, Nat.reduceMul, reduceIte, Nat.reducePow, Int.reduceEq]; rfl) ?_; (try dsimp only)))
            exact LoopS.again (i - f - (j + 1)) (by rfl) (by omega) ⟨j + 1, o + (sigR (rows.getD (f + j) noRw)).length, _, rfl, rfl, by omega, by rw [hst, ho], by omega, by exact zX, by (first | omega | (simp only [next_push, next_set, next_empty]; done) | (simp only [next_push, next_set, next_empty]; omega)), by simp (disch := (first | omega | exact zX | fail)) only [get_set, get_push, next_push, next_set, if_pos', if_neg', if_true, if_false, reduceIte]; exact k0, by simp (disch := (first | omega | exact zX | fail)) only [get_set, get_push, next_push, next_set, if_pos', if_neg', if_true, if_false, reduceIte]; exact k1⟩
          · have hji : f + j = i := by omega
            rw [hji, ← hfo] at ho
            have hS := hsd i hi0
            have hL : Sl 3 (sndA (bOf es i) (rows.getD i noRw).1) (cesA (sndR (rows.getD i noRw)).1) := sndA_Sl (hr.sl i hi0)
            have hl300 := sndR_len (r := rows.getD i noRw)
            have hlG := sndR_G (rows.getD i noRw)
            have hoL : offL rows i pc = (ofN rows i).2 + (sigL ((sndR (rows.getD i noRw)).1.take (colOf (sndR (rows.getD i noRw)).1 pc))).length := rfl
            generalize sndA (bOf es i) (rows.getD i noRw).1 = L at *
            generalize (sndR (rows.getD i noRw)).1 = l at *
            obtain ⟨c0, hc0, hc1⟩ : ∃ c0 : Nat, min (max pc 0) (l.length : Int) = c0 ∧ c0 ≤ l.length := ⟨(min (max pc 0) (l.length : Int)).toNat, by omega, by omega⟩
            have hcol : colOf l pc = if c0 < l.length ∧ (l.getD c0 zeroC).w = 0 then c0 - 1 else c0 := by
              unfold colOf; rw [hc0, Int.toNat_natCast]
            have hC : ∀ G, SlH G 3 L (cesA l) := fun G => .inl hL
            have lnl := fun G => len_cell lo' (hC G)
            have ixl := fun G => ix_cell lo' (hC G)
            have fal := fun G => fa_cell lo' (hC G)
            have lfl := fun G => lf_w lo' (hC G)
            have shl := fun G => sl_hi lo' (hC G)
            have hcl := cells_SlH (hC H')
            by_cases hw0 : c0 < l.length ∧ (l.getD c0 zeroC).w = 0
            · have hwb := sig_before hlG hw0.1 hw0.2
              rw [if_pos hw0] at hcol
              rw [hcol] at hoL
              have hD := cut_hi (hC H') (c0 - 1) (by omega)
              have hSg := fun ys G (x : Ext H' G) => signs_run (ys := ys) (lo := lo') (hD.ext x) (by rw [List.length_take]; omega)
              have hslg := fun G => len_cell lo' (H := G) (.inl (slA_Sl (sigL (l.take (c0 - 1)))))
              have ec : ((c0 : Int) - 1) = ((c0 - 1 : Nat) : Int) := by omega
              have hm3 : (sigL (l.take (c0 - 1))).length ≤ 300 := by have := sigL_len (l.take (c0 - 1)); rw [List.length_take] at this; omega
              generalize hmm : (sigL (l.take (c0 - 1))).length = m at *
              obtain ⟨hw1, hw2⟩ := hw0
              repeat' (first
               | refine zka ?_
               | refine zkb ?_
               | (apply RKp.op; ((try simp (disch := (first | omega | exact zX | exact zO | fail)) only [lenR lo' hA' hr, ixR lo' hA' hr, ldR lo' hA' hr, lenR_cut lo' hA' hr f i, k0, k1, hc0, lnl, ixl, fal, lfl, shl, hw2, ec, hslg, hcl, Int.toNat_natCast, go_sem, Nat.reduceDiv, Nat.reduceMod, Nat.reduceAdd, Nat.reduceSub, Nat.reduceEqDiff, Nat.reduceLeDiff, Nat.reduceLT, Nat.reduceMul, reduceIte, Nat.reducePow, Int.reduceEq]); exact zL); rfl)
               | (apply RKp.call; (apply hS <;> (exact zD)); rfl)
               | (apply RKp.callR; ((first | apply hS | apply hSg) <;> (exact zD)); rfl; intro tr htr)
               | (apply RKp.callO; (apply hS <;> (exact zD)); rfl; intro tr)
               | (apply RKp.callRE; (apply hS <;> (exact zD)); (intro x; rfl))
               | (apply RKp.callE; (apply hS <;> (exact zD)); (intro x; rfl))
               | refine zkc ?_
               | apply RKg.tt
               | apply RKg.ff
               | refine zkd ?_
               | refine zke ?_
               | refine zkf ?_
               | (refine RKg.split (fun h => ?_) (fun h => ?_) <;> (try rw [h]) <;> (replace h := zB h) <;> (try (exfalso; first | exact h | omega)))
               | apply RK.nil
               | apply V.sq
               | apply V.bl
               | apply V.sc
               | apply V.skip
               | apply V.label
               | apply V.ret
               | apply V.exit
               | apply SeqQ.normal
               | apply SeqQ.ret
               | apply SeqQ.exit
               | apply BlockQ.normal
               | apply BlockQ.ret
               | apply BlockQ.here
               | refine zbt ?_
               | apply LoopS.ret
               | apply LoopS.exit
               | apply LoopF.ret
               | apply LoopF.exit
               | apply V.regK
               | refine zvd ?_
               | refine zve ?_
               | (refine zvf (fun h => ?_) (fun h => ?_) <;> (replace h := zB h) <;> (try (exfalso; first | exact h | omega)))
                | (refine FnQ.retB (resc Tryz.results31) (by simp (disch := (first | omega | exact zX | exact zO | fail)) only [cellR_op, lenR lo' hA' hr, ixR lo' hA' hr, ldR lo' hA' hr, lenR_cut lo' hA' hr f i, k0, k1, hc0, lnl, ixl, fal, lfl, shl, hw2, ec, hslg, hcl, Int.toNat_natCast, go_sem, Nat.reduceDiv, Nat.reduceMod, Nat.reduceAdd, Nat.reduceSub, Nat.reduceEqDiff, Nat.reduceLeDiff, Nat.reduceLT, Nat.reduceMul, reduceIte, Nat.reducePow, Int.reduceEq]; rfl) ?_; (try dsimp only)))
              apply V.lpF [14, 101, 102, 103, 104, 105, 106, 107, 108, 109, 110, 111, 112, 113, 114, 115] (fun k xs => ∃ (e : Nat) (g : _), xs = .v (.int .i64 e) :: g ∧ k = rows.length - e ∧ i + 1 ≤ e ∧ e ≤ rows.length ∧ ∀ j, i ≤ j → j + 1 < e → (sndR (rows.getD j noRw)).2 = true) (rows.length - (i + 1))
              focus (intro xs; simp only [putMany, set2, Nat.reduceAdd, Nat.reduceDiv, Nat.reduceMod, nth_zero, nth_succ, List.set_cons_zero, List.set_cons_succ]; rfl)
              focus (first | rfl | simp only [readMany, nth_zero, nth_succ, Nat.reduceDiv, Nat.reduceMod])
              · exact ⟨i + 1, _, rfl, rfl, Nat.le_refl _, hi0, fun j h1 h2 => by omega⟩
              · rintro k xs ⟨e, g, rfl, rfl, he1, he2, hew⟩
                have hS2 := hsd (e - 1) (by omega)
                have ee : ((e : Int) - 1).toNat = e - 1 := by omega
                by_cases hle : e < rows.length
                · cases hwe : (sndR (rows.getD (e - 1) noRw)).2 with
                  | true =>
                    rw [hwe] at hS2
                    repeat' (first
                     | refine zka ?_
                     | refine zkb ?_
                     | (apply RKp.op; ((try simp (disch := (first | omega | exact zX | exact zO | fail)) only [lenR lo' hA' hr, ixR lo' hA' hr, ldR lo' hA' hr, ee, hwe, Int.toNat_natCast, go_sem, Nat.reduceDiv, Nat.reduceMod, Nat.reduceAdd, Nat.reduceSub, Nat.reduceEqDiff, Nat.reduceLeDiff, Nat.reduceLT, Nat.reduceMul, reduceIte, Nat.reducePow, Int.reduceEq]); exact zL); rfl)
                     | (apply RKp.call; (apply hS2 <;> (exact zD)); rfl)
                     | (apply RKp.callR; (apply hS2 <;> (exact zD)); rfl; intro tr htr)
                     | (apply RKp.callO; (apply hS2 <;> (exact zD)); rfl; intro tr)
                     | (apply RKp.callRE; (apply hS2 <;> (exact zD)); (intro x; rfl))
                     | (apply RKp.callE; (apply hS2 <;> (exact zD)); (intro x; rfl))
                     | refine zkc ?_
                     | apply RKg.tt
                     | apply RKg.ff
                     | refine zkd ?_
                     | refine zke ?_
                     | refine zkf ?_
                     | (refine RKg.split (fun h => ?_) (fun h => ?_) <;> (try rw [h]) <;> (replace h := zB h) <;> (try (exfalso; first | exact h | omega)))
                     | apply RK.nil
                     | apply V.sq
                     | apply V.bl
                     | apply V.sc
                     | apply V.skip
                     | apply V.label
                     | apply V.ret
                     | apply V.exit
                     | apply SeqQ.normal
                     | apply SeqQ.ret
                     | apply SeqQ.exit
                     | apply BlockQ.normal
                     | apply BlockQ.ret
                     | apply BlockQ.here
                     | refine zbt ?_
                     | apply LoopS.ret
                     | apply LoopS.exit
                     | apply LoopF.ret
                     | apply LoopF.exit
                     | apply V.regK
                     | refine zvd ?_
                     | refine zve ?_
                     | (refine zvf (fun h => ?_) (fun h => ?_) <;> (replace h := zB h) <;> (try (exfalso; first | exact h | omega)))
                      | (refine FnQ.retB (resc Tryz.results31) (by simp (disch := (first | omega | exact zX | exact zO | fail)) only [cellR_op, lenR lo' hA' hr, ixR lo' hA' hr, ldR lo' hA' hr, ee, hwe, Int.toNat_natCast, go_sem, Nat.reduceDiv, Nat.reduceMod, Nat.reduceAdd, Nat.reduceSub, Nat.reduceEqDiff, Nat.reduceLeDiff, Nat.reduceLT, Nat.reduceMul, reduceIte, Nat.reducePow, Int.reduceEq]; rfl) ?_; (try dsimp only)))
                    refine LoopF.again (rows.length - (e + 1)) (by rfl) (by omega) ⟨e + 1, _, rfl, rfl, by omega, by omega, fun j h1 h2 => ?_⟩
                    rcases Nat.lt_or_ge (j + 1) e with q | q
                    · exact hew j h1 q
                    · obtain rfl : j = e - 1 := by omega
                      exact hwe
                  | false =>
                    have hend : e = rows.length ∨ (sndR (rows.getD (e - 1) noRw)).2 = false := .inr hwe
                    have hcutL := hlf e (by omega) he2 hew hend
                    have hcr := hr.cut f e (by omega) he2
                    have hcs := cutA_SlH hA' (lo := f) (hi := e) (by omega) (by rw [hr.len]; exact he2)
                    have hJ := fun ys G (x : Ext H' G) => Join_run (ys := ys) (lo := lo') (hcs.ext x) hcr (by rw [cut_len _ _ _ he2]; omega)
                    have hjl : 0 < (joinL ((rows.drop f).take (e - f))).length := joinL_len _ [] (fun z => by have := congrArg List.length z; rw [cut_len _ _ _ he2, List.length_nil] at this; omega)
                    repeat' (first
                     | refine zka ?_
                     | refine zkb ?_
                     | (apply RKp.op; ((try simp (disch := (first | omega | exact zX | exact zO | fail)) only [lenR lo' hA' hr, ixR lo' hA' hr, ldR lo' hA' hr, slR_lohi lo' hA' hr, ee, hwe, Int.toNat_natCast, go_sem, Nat.reduceDiv, Nat.reduceMod, Nat.reduceAdd, Nat.reduceSub, Nat.reduceEqDiff, Nat.reduceLeDiff, Nat.reduceLT, Nat.reduceMul, reduceIte, Nat.reducePow, Int.reduceEq]); exact zL); rfl)
                     | (apply RKp.call; (apply hS2 <;> (exact zD)); rfl)
                     | (apply RKp.callR; (apply hS2 <;> (exact zD)); rfl; intro tr htr)
                     | (apply RKp.callO; (apply hS2 <;> (exact zD)); rfl; intro tr)
                     | (apply RKp.callRE; (apply hS2 <;> (exact zD)); (intro x; rfl))
                     | (apply RKp.callE; (apply hS2 <;> (exact zD)); (intro x; rfl))
                     | (apply RKp.callNE; (apply hJ <;> (exact zD)); (intro x; rfl))
                     | refine zkc ?_
                     | apply RKg.tt
                     | apply RKg.ff
                     | refine zkd ?_
                     | refine zke ?_
                     | refine zkf ?_
                     | (refine RKg.split (fun h => ?_) (fun h => ?_) <;> (try rw [h]) <;> (replace h := zB h) <;> (try (exfalso; first | exact h | omega)))
                     | apply RK.nil
                     | apply V.sq
                     | apply V.bl
                     | apply V.sc
                     | apply V.skip
                     | apply V.label
                     | apply V.ret
                     | apply V.exit
                     | apply SeqQ.normal
                     | apply SeqQ.ret
                     | apply SeqQ.exit
                     | apply BlockQ.normal
                     | apply BlockQ.ret
                     | apply BlockQ.here
                     | refine zbt ?_
                     | apply LoopS.ret
                     | apply LoopS.exit
                     | apply LoopF.ret
                     | apply LoopF.exit
                     | apply V.regK
                     | refine zvd ?_
                     | refine zve ?_
                     | (refine zvf (fun h => ?_) (fun h => ?_) <;> (replace h := zB h) <;> (try (exfalso; first | exact h | omega)))
                      | (refine FnQ.retB (resc Tryz.results31) (by simp (disch := (first | omega | exact zX | exact zO | fail)) only [cellR_op, lenR lo' hA' hr, ixR lo' hA' hr, ldR lo' hA' hr, slR_lohi lo' hA' hr, ee, hwe, Int.toNat_natCast, go_sem, Nat.reduceDiv, Nat.reduceMod, Nat.reduceAdd, Nat.reduceSub, Nat.reduceEqDiff, Nat.reduceLeDiff, Nat.reduceLT, Nat.reduceMul, reduceIte, Nat.reducePow, Int.reduceEq]; rfl) ?_; (try dsimp only)))
                    rintro u H5 tr5 htr5 ⟨ls5, ho5, hl5, hx5, -⟩
                    have n5 := hx5.next
                    have ez : Int.toNat 0 = 0 := rfl
                    have k5 : H5.get (H'.next + 1) = some (spBlk 0 0 0) := by rw [hx5.get _ (by omega)]; exact k1
                    have hlen0 := fun G => len_cell lo' (H := G) (.inl (hl5.sl 0 hjl))
                    have hK40 := hl5.lt 0 hjl
                    rw [hcutL] at hlen0 hK40
                    generalize hK : ((joinL rows).getD (ofN rows i).1 []).length = K at *
                    by_cases hcmp : K < offL rows i pc
                    · rw [if_pos hcmp]
                      rw [hoL] at hcmp
                      repeat' (first
                       | refine zka ?_
                       | refine zkb ?_
                       | (apply RKp.op; ((try simp (disch := (first | omega | exact zX | exact zO | fail)) only [lenL lo' ho5.slh hl5, ixL lo' ho5.slh hl5, ldL lo' ho5.slh hl5, hlen0, k5, ez, Int.toNat_natCast, go_sem, Nat.reduceDiv, Nat.reduceMod, Nat.reduceAdd, Nat.reduceSub, Nat.reduceEqDiff, Nat.reduceLeDiff, Nat.reduceLT, Nat.reduceMul, reduceIte, Nat.reducePow, Int.reduceEq]); exact zL); rfl)
                       | refine zkc ?_
                       | apply RKg.tt
                       | apply RKg.ff
                       | refine zkd ?_
                       | refine zke ?_
                       | refine zkf ?_
                       | (refine RKg.split (fun h => ?_) (fun h => ?_) <;> (try rw [h]) <;> (replace h := zB h) <;> (try (exfalso; first | exact h | omega)))
                       | apply RK.nil
                       | apply V.sq
                       | apply V.bl
                       | apply V.sc
                       | apply V.skip
                       | apply V.label
                       | apply V.ret
                       | apply V.exit
                       | apply SeqQ.normal
                       | apply SeqQ.ret
                       | apply SeqQ.exit
                       | apply BlockQ.normal
                       | apply BlockQ.ret
                       | apply BlockQ.here
                       | refine zbt ?_
                       | apply LoopS.ret
                       | apply LoopS.exit
                       | apply LoopF.ret
                       | apply LoopF.exit
                       | apply V.regK
                       | refine zvd ?_
                       | refine zve ?_
                       | (refine zvf (fun h => ?_) (fun h => ?_) <;> (replace h := zB h) <;> (try (exfalso; first | exact h | omega)))
                        | (refine FnQ.retB (resc Tryz.results31) (by simp (disch := (first | omega | exact zX | exact zO | fail)) only [cellR_op, lenL lo' ho5.slh hl5, ixL lo' ho5.slh hl5, ldL lo' ho5.slh hl5, hlen0, k5, ez, Int.toNat_natCast, go_sem, Nat.reduceDiv, Nat.reduceMod, Nat.reduceAdd, Nat.reduceSub, Nat.reduceEqDiff, Nat.reduceLeDiff, Nat.reduceLT, Nat.reduceMul, reduceIte, Nat.reducePow, Int.reduceEq]; rfl) ?_; (try dsimp only)))
                      all_goals first
                        | (exfalso; omega)
                        | (have e9 : ((offL rows i pc - K : Nat) : Int) = o + m - K := by omega
                           simp only [frzR_agg, List.map_cons, List.map_nil, frzC_v, e9])
                        | trace_state
                    · rw [if_neg hcmp]
                      rw [hoL] at hcmp
                      repeat' (first
                       | refine zka ?_
                       | refine zkb ?_
                       | (apply RKp.op; ((try simp (disch := (first | omega | exact zX | exact zO | fail)) only [lenL lo' ho5.slh hl5, ixL lo' ho5.slh hl5, ldL lo' ho5.slh hl5, hlen0, k5, ez, Int.toNat_natCast, go_sem, Nat.reduceDiv, Nat.reduceMod, Nat.reduceAdd, Nat.reduceSub, Nat.reduceEqDiff, Nat.reduceLeDiff, Nat.reduceLT, Nat.reduceMul, reduceIte, Nat.reducePow, Int.reduceEq]); exact zL); rfl)
                       | refine zkc ?_
                       | apply RKg.tt
                       | apply RKg.ff
                       | refine zkd ?_
                       | refine zke ?_
                       | refine zkf ?_
                       | (refine RKg.split (fun h => ?_) (fun h => ?_) <;> (try rw [h]) <;> (replace h := zB h) <;> (try (exfalso; first | exact h | omega)))
                       | apply RK.nil
                       | apply V.sq
                       | apply V.bl
                       | apply V.sc
                       | apply V.skip
                       | apply V.label
                       | apply V.ret
                       | apply V.exit
                       | apply SeqQ.normal
                       | apply SeqQ.ret
                       | apply SeqQ.exit
                       | apply BlockQ.normal
                       | apply BlockQ.ret
                       | apply BlockQ.here
                       | refine zbt ?_
                       | apply LoopS.ret
                       | apply LoopS.exit
                       | apply LoopF.ret
                       | apply LoopF.exit
                       | apply V.regK
                       | refine zvd ?_
                       | refine zve ?_
                       | (refine zvf (fun h => ?_) (fun h => ?_) <;> (replace h := zB h) <;> (try (exfalso; first | exact h | omega)))
                        | (refine FnQ.retB (resc Tryz.results31) (by simp (disch := (first | omega | exact zX | exact zO | fail)) only [cellR_op, lenL lo' ho5.slh hl5, ixL lo' ho5.slh hl5, ldL lo' ho5.slh hl5, hlen0, k5, ez, Int.toNat_natCast, go_sem, Nat.reduceDiv, Nat.reduceMod, Nat.reduceAdd, Nat.reduceSub, Nat.reduceEqDiff, Nat.reduceLeDiff, Nat.reduceLT, Nat.reduceMul, reduceIte, Nat.reducePow, Int.reduceEq]; rfl) ?_; (try dsimp only)))
                      all_goals first
                        | (exfalso; omega)
                        | (have e8 : ((offL rows i pc : Nat) : Int) = o + m := by omega
                           simp only [frzR_agg, List.map_cons, List.map_nil, frzC_v, e8]; rfl)
                        | trace_state
                · have hend : e = rows.length ∨ (sndR (rows.getD (e - 1) noRw)).2 = false := .inl (by omega)
                  have hwe := he1
                  have hcutL := hlf e (by omega) he2 hew hend
                  have hcr := hr.cut f e (by omega) he2
                  have hcs := cutA_SlH hA' (lo := f) (hi := e) (by omega) (by rw [hr.len]; exact he2)
                  have hJ := fun ys G (x : Ext H' G) => Join_run (ys := ys) (lo := lo') (hcs.ext x) hcr (by rw [cut_len _ _ _ he2]; omega)
                  have hjl : 0 < (joinL ((rows.drop f).take (e - f))).length := joinL_len _ [] (fun z => by have := congrArg List.length z; rw [cut_len _ _ _ he2, List.length_nil] at this; omega)
                  repeat' (first
                   | refine zka ?_
                   | refine zkb ?_
                   | (apply RKp.op; ((try simp (disch := (first | omega | exact zX | exact zO | fail)) only [lenR lo' hA' hr, ixR lo' hA' hr, ldR lo' hA' hr, slR_lohi lo' hA' hr, ee, hwe, Int.toNat_natCast, go_sem, Nat.reduceDiv, Nat.reduceMod, Nat.reduceAdd, Nat.reduceSub, Nat.reduceEqDiff, Nat.reduceLeDiff, Nat.reduceLT, Nat.reduceMul, reduceIte, Nat.reducePow, Int.reduceEq]); exact zL); rfl)
                   | (apply RKp.call; (apply hS2 <;> (exact zD)); rfl)
                   | (apply RKp.callR; (apply hS2 <;> (exact zD)); rfl; intro tr htr)
                   | (apply RKp.callO; (apply hS2 <;> (exact zD)); rfl; intro tr)
                   | (apply RKp.callRE; (apply hS2 <;> (exact zD)); (intro x; rfl))
                   | (apply RKp.callE; (apply hS2 <;> (exact zD)); (intro x; rfl))
                   | (apply RKp.callNE; (apply hJ <;> (exact zD)); (intro x; rfl))
                   | refine zkc ?_
                   | apply RKg.tt
                   | apply RKg.ff
                   | refine zkd ?_
                   | refine zke ?_
                   | refine zkf ?_
                   | (refine RKg.split (fun h => ?_) (fun h => ?_) <;> (try rw [h]) <;> (replace h := zB h) <;> (try (exfalso; first | exact h | omega)))
                   | apply RK.nil
                   | apply V.sq
                   | apply V.bl
                   | apply V.sc
                   | apply V.skip
                   | apply V.label
                   | apply V.ret
                   | apply V.exit
                   | apply SeqQ.normal
                   | apply SeqQ.ret
                   | apply SeqQ.exit
                   | apply BlockQ.normal
                   | apply BlockQ.ret
                   | apply BlockQ.here
                   | refine zbt ?_
                   | apply LoopS.ret
                   | apply LoopS.exit
                   | apply LoopF.ret
                   | apply LoopF.exit
                   | apply V.regK
                   | refine zvd ?_
                   | refine zve ?_
                   | (refine zvf (fun h => ?_) (fun h => ?_) <;> (replace h := zB h) <;> (try (exfalso; first | exact h | omega)))
                    | (refine FnQ.retB (resc Tryz.results31) (by simp (disch := (first | omega | exact zX | exact zO | fail)) only [cellR_op, lenR lo' hA' hr, ixR lo' hA' hr, ldR lo' hA' hr, slR_lohi lo' hA' hr, ee, hwe, Int.toNat_natCast, go_sem, Nat.reduceDiv, Nat.reduceMod, Nat.reduceAdd, Nat.reduceSub, Nat.reduceEqDiff, Nat.reduceLeDiff, Nat.reduceLT, Nat.reduceMul, reduceIte, Nat.reducePow, Int.reduceEq]; rfl) ?_; (try dsimp only)))
                  rintro u H5 tr5 htr5 ⟨ls5, ho5, hl5, hx5, -⟩
                  have n5 := hx5.next
                  have ez : Int.toNat 0 = 0 := rfl
                  have k5 : H5.get (H'.next + 1) = some (spBlk 0 0 0) := by rw [hx5.get _ (by omega)]; exact k1
                  have hlen0 := fun G => len_cell lo' (H := G) (.inl (hl5.sl 0 hjl))
                  have hK40 := hl5.lt 0 hjl
                  rw [hcutL] at hlen0 hK40
                  generalize hK : ((joinL rows).getD (ofN rows i).1 []).length = K at *
                  by_cases hcmp : K < offL rows i pc
                  · rw [if_pos hcmp]
                    rw [hoL] at hcmp
                    repeat' (first
                     | refine zka ?_
                     | refine zkb ?_
                     | (apply RKp.op; ((try simp (disch := (first | omega | exact zX | exact zO | fail)) only [lenL lo' ho5.slh hl5, ixL lo' ho5.slh hl5, ldL lo' ho5.slh hl5, hlen0, k5, ez, Int.toNat_natCast, go_sem, Nat.reduceDiv, Nat.reduceMod, Nat.reduceAdd, Nat.reduceSub, Nat.reduceEqDiff, Nat.reduceLeDiff, Nat.reduceLT, Nat.reduceMul, reduceIte, Nat.reducePow, Int.reduceEq]); exact zL); rfl)
                     | refine zkc ?_
                     | apply RKg.tt
                     | apply RKg.ff
                     | refine zkd ?_
                     | refine zke ?_
                     | refine zkf ?_
                     | (refine RKg.split (fun h => ?_) (fun h => ?_) <;> (try rw [h]) <;> (replace h := zB h) <;> (try (exfalso; first | exact h | omega)))
                     | apply RK.nil
                     | apply V.sq
                     | apply V.bl
                     | apply V.sc
                     | apply V.skip
                     | apply V.label
                     | apply V.ret
                     | apply V.exit
                     | apply SeqQ.normal
                     | apply SeqQ.ret
                     | apply SeqQ.exit
                     | apply BlockQ.normal
                     | apply BlockQ.ret
                     | apply BlockQ.here
                     | refine zbt ?_
                     | apply LoopS.ret
                     | apply LoopS.exit
                     | apply LoopF.ret
                     | apply LoopF.exit
                     | apply V.regK
                     | refine zvd ?_
                     | refine zve ?_
                     | (refine zvf (fun h => ?_) (fun h => ?_) <;> (replace h := zB h) <;> (try (exfalso; first | exact h | omega)))
                      | (refine FnQ.retB (resc Tryz.results31) (by simp (disch := (first | omega | exact zX | exact zO | fail)) only [cellR_op, lenL lo' ho5.slh hl5, ixL lo' ho5.slh hl5, ldL lo' ho5.slh hl5, hlen0, k5, ez, Int.toNat_natCast, go_sem, Nat.reduceDiv, Nat.reduceMod, Nat.reduceAdd, Nat.reduceSub, Nat.reduceEqDiff, Nat.reduceLeDiff, Nat.reduceLT, Nat.reduceMul, reduceIte, Nat.reducePow, Int.reduceEq]; rfl) ?_; (try dsimp only)))
                    all_goals first
                      | (exfalso; omega)
                      | (have e9 : ((offL rows i pc - K : Nat) : Int) = o + m - K := by omega
                         simp only [frzR_agg, List.map_cons, List.map_nil, frzC_v, e9])
                      | trace_state
                  · rw [if_neg hcmp]
                    rw [hoL] at hcmp
                    repeat' (first
                     | refine zka ?_
                     | refine zkb ?_
                     | (apply RKp.op; ((try simp (disch := (first | omega | exact zX | exact zO | fail)) only [lenL lo' ho5.slh hl5, ixL lo' ho5.slh hl5, ldL lo' ho5.slh hl5, hlen0, k5, ez, Int.toNat_natCast, go_sem, Nat.reduceDiv, Nat.reduceMod, Nat.reduceAdd, Nat.reduceSub, Nat.reduceEqDiff, Nat.reduceLeDiff, Nat.reduceLT, Nat.reduceMul, reduceIte, Nat.reducePow, Int.reduceEq]); exact zL); rfl)
                     | refine zkc ?_
                     | apply RKg.tt
                     | apply RKg.ff
                     | refine zkd ?_
                     | refine zke ?_
                     | refine zkf ?_
                     | (refine RKg.split (fun h => ?_) (fun h => ?_) <;> (try rw [h]) <;> (replace h := zB h) <;> (try (exfalso; first | exact h | omega)))
                     | apply RK.nil
                     | apply V.sq
                     | apply V.bl
                     | apply V.sc
                     | apply V.skip
                     | apply V.label
                     | apply V.ret
                     | apply V.exit
                     | apply SeqQ.normal
                     | apply SeqQ.ret
                     | apply SeqQ.exit
                     | apply BlockQ.normal
                     | apply BlockQ.ret
                     | apply BlockQ.here
                     | refine zbt ?_
                     | apply LoopS.ret
                     | apply LoopS.exit
                     | apply LoopF.ret
                     | apply LoopF.exit
                     | apply V.regK
                     | refine zvd ?_
                     | refine zve ?_
                     | (refine zvf (fun h => ?_) (fun h => ?_) <;> (replace h := zB h) <;> (try (exfalso; first | exact h | omega)))
                      | (refine FnQ.retB (resc Tryz.results31) (by simp (disch := (first | omega | exact zX | exact zO | fail)) only [cellR_op, lenL lo' ho5.slh hl5, ixL lo' ho5.slh hl5, ldL lo' ho5.slh hl5, hlen0, k5, ez, Int.toNat_natCast, go_sem, Nat.reduceDiv, Nat.reduceMod, Nat.reduceAdd, Nat.reduceSub, Nat.reduceEqDiff, Nat.reduceLeDiff, Nat.reduceLT, Nat.reduceMul, reduceIte, Nat.reducePow, Int.reduceEq]; rfl) ?_; (try dsimp only)))
                    all_goals first
                      | (exfalso; omega)
                      | (have e8 : ((offL rows i pc : Nat) : Int) = o + m := by omega
                         simp only [frzR_agg, List.map_cons, List.map_nil, frzC_v, e8]; rfl)
                      | trace_state
            · rw [if_neg hw0] at hcol
              rw [hcol] at hoL
              have hD := cut_hi (hC H') c0 (by omega)
              have hSg := fun ys G (x : Ext H' G) => signs_run (ys := ys) (lo := lo') (hD.ext x) (by rw [List.length_take]; omega)
              have hslg := fun G => len_cell lo' (H := G) (.inl (slA_Sl (sigL (l.take c0))))
              have hm3 : (sigL (l.take c0)).length ≤ 300 := by have := sigL_len (l.take c0); rw [List.length_take] at this; omega
              generalize hmm : (sigL (l.take c0)).length = m at *
              by_cases hw1 : c0 < l.length
              · have hw2 : ¬ (l.getD c0 zeroC).w = 0 := fun z => hw0 ⟨hw1, z⟩
                repeat' (first
                 | refine zka ?_
                 | refine zkb ?_
                 | (apply RKp.op; ((try simp (disch := (first | omega | exact zX | exact zO | fail)) only [lenR lo' hA' hr, ixR lo' hA' hr, ldR lo' hA' hr, lenR_cut lo' hA' hr f i, k0, k1, hc0, lnl, ixl, fal, lfl, shl, hslg, hcl, Int.toNat_natCast, go_sem, Nat.reduceDiv, Nat.reduceMod, Nat.reduceAdd, Nat.reduceSub, Nat.reduceEqDiff, Nat.reduceLeDiff, Nat.reduceLT, Nat.reduceMul, reduceIte, Nat.reducePow, Int.reduceEq]); exact zL); rfl)
                 | (apply RKp.call; (apply hS <;> (exact zD)); rfl)
                 | (apply RKp.callR; ((first | apply hS | apply hSg) <;> (exact zD)); rfl; intro tr htr)
                 | (apply RKp.callO; (apply hS <;> (exact zD)); rfl; intro tr)
                 | (apply RKp.callRE; (apply hS <;> (exact zD)); (intro x; rfl))
                 | (apply RKp.callE; (apply hS <;> (exact zD)); (intro x; rfl))
                 | refine zkc ?_
                 | apply RKg.tt
                 | apply RKg.ff
                 | refine zkd ?_
                 | refine zke ?_
                 | refine zkf ?_
                 | (refine RKg.split (fun h => ?_) (fun h => ?_) <;> (try rw [h]) <;> (replace h := zB h) <;> (try (exfalso; first | exact h | omega)))
                 | apply RK.nil
                 | apply V.sq
                 | apply V.bl
                 | apply V.sc
                 | apply V.skip
                 | apply V.label
                 | apply V.ret
                 | apply V.exit
                 | apply SeqQ.normal
                 | apply SeqQ.ret
                 | apply SeqQ.exit
                 | apply BlockQ.normal
                 | apply BlockQ.ret
                 | apply BlockQ.here
                 | refine zbt ?_
                 | apply LoopS.ret
                 | apply LoopS.exit
                 | apply LoopF.ret
                 | apply LoopF.exit
                 | apply V.regK
                 | refine zvd ?_
                 | refine zve ?_
                 | (refine zvf (fun h => ?_) (fun h => ?_) <;> (replace h := zB h) <;> (try (exfalso; first | exact h | omega)))
                  | (refine FnQ.retB (resc Tryz.results31) (by simp (disch := (first | omega | exact zX | exact zO | fail)) only [cellR_op, lenR lo' hA' hr, ixR lo' hA' hr, ldR lo' hA' hr, lenR_cut lo' hA' hr f i, k0, k1, hc0, lnl, ixl, fal, lfl, shl, hslg, hcl, Int.toNat_natCast, go_sem, Nat.reduceDiv, Nat.reduceMod, Nat.reduceAdd, Nat.reduceSub, Nat.reduceEqDiff, Nat.reduceLeDiff, Nat.reduceLT, Nat.reduceMul, reduceIte, Nat.reducePow, Int.reduceEq]; rfl) ?_; (try dsimp only)))
                apply V.lpF [14, 101, 102, 103, 104, 105, 106, 107, 108, 109, 110, 111, 112, 113, 114, 115] (fun k xs => ∃ (e : Nat) (g : _), xs = .v (.int .i64 e) :: g ∧ k = rows.length - e ∧ i + 1 ≤ e ∧ e ≤ rows.length ∧ ∀ j, i ≤ j → j + 1 < e → (sndR (rows.getD j noRw)).2 = true) (rows.length - (i + 1))
                focus (intro xs; simp only [putMany, set2, Nat.reduceAdd, Nat.reduceDiv, Nat.reduceMod, nth_zero, nth_succ, List.set_cons_zero, List.set_cons_succ]; rfl)
                focus (first | rfl | simp only [readMany, nth_zero, nth_succ, Nat.reduceDiv, Nat.reduceMod])
                · exact ⟨i + 1, _, rfl, rfl, Nat.le_refl _, hi0, fun j h1 h2 => by omega⟩
                · rintro k xs ⟨e, g, rfl, rfl, he1, he2, hew⟩
                  have hS2 := hsd (e - 1) (by omega)
                  have ee : ((e : Int) - 1).toNat = e - 1 := by omega
                  by_cases hle : e < rows.length
                  · cases hwe : (sndR (rows.getD (e - 1) noRw)).2 with
                    | true =>
                      rw [hwe] at hS2
                      repeat' (first
                       | refine zka ?_
                       | refine zkb ?_
                       | (apply RKp.op; ((try simp (disch := (first | omega | exact zX | exact zO | fail)) only [lenR lo' hA' hr, ixR lo' hA' hr, ldR lo' hA' hr, ee, hwe, Int.toNat_natCast, go_sem, Nat.reduceDiv, Nat.reduceMod, Nat.reduceAdd, Nat.reduceSub, Nat.reduceEqDiff, Nat.reduceLeDiff, Nat.reduceLT, Nat.reduceMul, reduceIte, Nat.reducePow, Int.reduceEq]); exact zL); rfl)
                       | (apply RKp.call; (apply hS2 <;> (exact zD)); rfl)
                       | (apply RKp.callR; (apply hS2 <;> (exact zD)); rfl; intro tr htr)
                       | (apply RKp.callO; (apply hS2 <;> (exact zD)); rfl; intro tr)
                       | (apply RKp.callRE; (apply hS2 <;> (exact zD)); (intro x; rfl))
                       | (apply RKp.callE; (apply hS2 <;> (exact zD)); (intro x; rfl))
                       | refine zkc ?_
                       | apply RKg.tt
                       | apply RKg.ff
                       | refine zkd ?_
                       | refine zke ?_
                       | refine zkf ?_
                       | (refine RKg.split (fun h => ?_) (fun h => ?_) <;> (try rw [h]) <;> (replace h := zB h) <;> (try (exfalso; first | exact h | omega)))
                       | apply RK.nil
                       | apply V.sq
                       | apply V.bl
                       | apply V.sc
                       | apply V.skip
                       | apply V.label
                       | apply V.ret
                       | apply V.exit
                       | apply SeqQ.normal
                       | apply SeqQ.ret
                       | apply SeqQ.exit
                       | apply BlockQ.normal
                       | apply BlockQ.ret
                       | apply BlockQ.here
                       | refine zbt ?_
                       | apply LoopS.ret
                       | apply LoopS.exit
                       | apply LoopF.ret
                       | apply LoopF.exit
                       | apply V.regK
                       | refine zvd ?_
                       | refine zve ?_
                       | (refine zvf (fun h => ?_) (fun h => ?_) <;> (replace h := zB h) <;> (try (exfalso; first | exact h | omega)))
                        | (refine FnQ.retB (resc Tryz.results31) (by simp (disch := (first | omega | exact zX | exact zO | fail)) only [cellR_op, lenR lo' hA' hr, ixR lo' hA' hr, ldR lo' hA' hr, ee, hwe, Int.toNat_natCast, go_sem, Nat.reduceDiv, Nat.reduceMod, Nat.reduceAdd, Nat.reduceSub, Nat.reduceEqDiff, Nat.reduceLeDiff, Nat.reduceLT, Nat.reduceMul, reduceIte, Nat.reducePow, Int.reduceEq]; rfl) ?_; (try dsimp only)))
                      refine LoopF.again (rows.length - (e + 1)) (by rfl) (by omega) ⟨e + 1, _, rfl, rfl, by omega, by omega, fun j h1 h2 => ?_⟩
                      rcases Nat.lt_or_ge (j + 1) e with q | q
                      · exact hew j h1 q
                      · obtain rfl : j = e - 1 := by omega
                        exact hwe
                    | false =>
                      have hend : e = rows.length ∨ (sndR (rows.getD (e - 1) noRw)).2 = false := .inr hwe
                      have hcutL := hlf e (by omega) he2 hew hend
                      have hcr := hr.cut f e (by omega) he2
                      have hcs := cutA_SlH hA' (lo := f) (hi := e) (by omega) (by rw [hr.len]; exact he2)
                      have hJ := fun ys G (x : Ext H' G) => Join_run (ys := ys) (lo := lo') (hcs.ext x) hcr (by rw [cut_len _ _ _ he2]; omega)
                      have hjl : 0 < (joinL ((rows.drop f).take (e - f))).length := joinL_len _ [] (fun z => by have := congrArg List.length z; rw [cut_len _ _ _ he2, List.length_nil] at this; omega)
                      repeat' (first
                       | refine zka ?_
                       | refine zkb ?_
                       | (apply RKp.op; ((try simp (disch := (first | omega | exact zX | exact zO | fail)) only [lenR lo' hA' hr, ixR lo' hA' hr, ldR lo' hA' hr, slR_lohi lo' hA' hr, ee, hwe, Int.toNat_natCast, go_sem, Nat.reduceDiv, Nat.reduceMod, Nat.reduceAdd, Nat.reduceSub, Nat.reduceEqDiff, Nat.reduceLeDiff, Nat.reduceLT, Nat.reduceMul, reduceIte, Nat.reducePow, Int.reduceEq]); exact zL); rfl)
                       | (apply RKp.call; (apply hS2 <;> (exact zD)); rfl)
                       | (apply RKp.callR; (apply hS2 <;> (exact zD)); rfl; intro tr htr)
                       | (apply RKp.callO; (apply hS2 <;> (exact zD)); rfl; intro tr)
                       | (apply RKp.callRE; (apply hS2 <;> (exact zD)); (intro x; rfl))
                       | (apply RKp.callE; (apply hS2 <;> (exact zD)); (intro x; rfl))
                       | (apply RKp.callNE; (apply hJ <;> (exact zD)); (intro x; rfl))
                       | refine zkc ?_
                       | apply RKg.tt
                       | apply RKg.ff
                       | refine zkd ?_
                       | refine zke ?_
                       | refine zkf ?_
                       | (refine RKg.split (fun h => ?_) (fun h => ?_) <;> (try rw [h]) <;> (replace h := zB h) <;> (try (exfalso; first | exact h | omega)))
                       | apply RK.nil
                       | apply V.sq
                       | apply V.bl
                       | apply V.sc
                       | apply V.skip
                       | apply V.label
                       | apply V.ret
                       | apply V.exit
                       | apply SeqQ.normal
                       | apply SeqQ.ret
                       | apply SeqQ.exit
                       | apply BlockQ.normal
                       | apply BlockQ.ret
                       | apply BlockQ.here
                       | refine zbt ?_
                       | apply LoopS.ret
                       | apply LoopS.exit
                       | apply LoopF.ret
                       | apply LoopF.exit
                       | apply V.regK
                       | refine zvd ?_
                       | refine zve ?_
                       | (refine zvf (fun h => ?_) (fun h => ?_) <;> (replace h := zB h) <;> (try (exfalso; first | exact h | omega)))
                        | (refine FnQ.retB (resc Tryz.results31) (by simp (disch := (first | omega | exact zX | exact zO | fail)) only [cellR_op, lenR lo' hA' hr, ixR lo' hA' hr, ldR lo' hA' hr, slR_lohi lo' hA' hr, ee, hwe, Int.toNat_natCast, go_sem, Nat.reduceDiv, Nat.reduceMod, Nat.reduceAdd, Nat.reduceSub, Nat.reduceEqDiff, Nat.reduceLeDiff, Nat.reduceLT, Nat.reduceMul, reduceIte, Nat.reducePow, Int.reduceEq]; rfl) ?_; (try dsimp only)))
                      rintro u H5 tr5 htr5 ⟨ls5, ho5, hl5, hx5, -⟩
                      have n5 := hx5.next
                      have ez : Int.toNat 0 = 0 := rfl
                      have k5 : H5.get (H'.next + 1) = some (spBlk 0 0 0) := by rw [hx5.get _ (by omega)]; exact k1
                      have hlen0 := fun G => len_cell lo' (H := G) (.inl (hl5.sl 0 hjl))
                      have hK40 := hl5.lt 0 hjl
                      rw [hcutL] at hlen0 hK40
                      generalize hK : ((joinL rows).getD (ofN rows i).1 []).length = K at *
                      by_cases hcmp : K < offL rows i pc
                      · rw [if_pos hcmp]
                        rw [hoL] at hcmp
                        repeat' (first
                         | refine zka ?_
                         | refine zkb ?_
                         | (apply RKp.op; ((try simp (disch := (first | omega | exact zX | exact zO | fail)) only [lenL lo' ho5.slh hl5, ixL lo' ho5.slh hl5, ldL lo' ho5.slh hl5, hlen0, k5, ez, Int.toNat_natCast, go_sem, Nat.reduceDiv, Nat.reduceMod, Nat.reduceAdd, Nat.reduceSub, Nat.reduceEqDiff, Nat.reduceLeDiff, Nat.reduceLT, Nat.reduceMul, reduceIte, Nat.reducePow, Int.reduceEq]); exact zL); rfl)
                         | refine zkc ?_
                         | apply RKg.tt
                         | apply RKg.ff
                         | refine zkd ?_
                         | refine zke ?_
                         | refine zkf ?_
                         | (refine RKg.split (fun h => ?_) (fun h => ?_) <;> (try rw [h]) <;> (replace h := zB h) <;> (try (exfalso; first | exact h | omega)))
                         | apply RK.nil
                         | apply V.sq
                         | apply V.bl
                         | apply V.sc
                         | apply V.skip
                         | apply V.label
                         | apply V.ret
                         | apply V.exit
                         | apply SeqQ.normal
                         | apply SeqQ.ret
                         | apply SeqQ.exit
                         | apply BlockQ.normal
                         | apply BlockQ.ret
                         | apply BlockQ.here
                         | refine zbt ?_
                         | apply LoopS.ret
                         | apply LoopS.exit
                         | apply LoopF.ret
                         | apply LoopF.exit
                         | apply V.regK
                         | refine zvd ?_
                         | refine zve ?_
                         | (refine zvf (fun h => ?_) (fun h => ?_) <;> (replace h := zB h) <;> (try (exfalso; first | exact h | omega)))
                          | (refine FnQ.retB (resc Tryz.results31) (by simp (disch := (first | omega | exact zX | exact zO | fail)) only [cellR_op, lenL lo' ho5.slh hl5, ixL lo' ho5.slh hl5, ldL lo' ho5.slh hl5, hlen0, k5, ez, Int.toNat_natCast, go_sem, Nat.reduceDiv, Nat.reduceMod, Nat.reduceAdd, Nat.reduceSub, Nat.reduceEqDiff, Nat.reduceLeDiff, Nat.reduceLT, Nat.reduceMul, reduceIte, Nat.reducePow, Int.reduceEq]; rfl) ?_; (try dsimp only)))
                        all_goals first
                          | (exfalso; omega)
                          | (have e9 : ((offL rows i pc - K : Nat) : Int) = o + m - K := by omega
                             simp only [frzR_agg, List.map_cons, List.map_nil, frzC_v, e9])
                          | trace_state
                      · rw [if_neg hcmp]
                        rw [hoL] at hcmp
                        repeat' (first
                         | refine zka ?_
                         | refine zkb ?_
                         | (apply RKp.op; ((try simp (disch := (first | omega | exact zX | exact zO | fail)) only [lenL lo' ho5.slh hl5, ixL lo' ho5.slh hl5, ldL lo' ho5.slh hl5, hlen0, k5, ez, Int.toNat_natCast, go_sem, Nat.reduceDiv, Nat.reduceMod, Nat.reduceAdd, Nat.reduceSub, Nat.reduceEqDiff, Nat.reduceLeDiff, Nat.reduceLT, Nat.reduceMul, reduceIte, Nat.reducePow, Int.reduceEq]); exact zL); rfl)
                         | refine zkc ?_
                         | apply RKg.tt
                         | apply RKg.ff
                         | refine zkd ?_
                         | refine zke ?_
                         | refine zkf ?_
                         | (refine RKg.split (fun h => ?_) (fun h => ?_) <;> (try rw [h]) <;> (replace h := zB h) <;> (try (exfalso; first | exact h | omega)))
                         | apply RK.nil
                         | apply V.sq
                         | apply V.bl
                         | apply V.sc
                         | apply V.skip
                         | apply V.label
                         | apply V.ret
                         | apply V.exit
                         | apply SeqQ.normal
                         | apply SeqQ.ret
                         | apply SeqQ.exit
                         | apply BlockQ.normal
                         | apply BlockQ.ret
                         | apply BlockQ.here
                         | refine zbt ?_
                         | apply LoopS.ret
                         | apply LoopS.exit
                         | apply LoopF.ret
                         | apply LoopF.exit
                         | apply V.regK
                         | refine zvd ?_
                         | refine zve ?_
                         | (refine zvf (fun h => ?_) (fun h => ?_) <;> (replace h := zB h) <;> (try (exfalso; first | exact h | omega)))
                          | (refine FnQ.retB (resc Tryz.results31) (by simp (disch := (first | omega | exact zX | exact zO | fail)) only [cellR_op, lenL lo' ho5.slh hl5, ixL lo' ho5.slh hl5, ldL lo' ho5.slh hl5, hlen0, k5, ez, Int.toNat_natCast, go_sem, Nat.reduceDiv, Nat.reduceMod, Nat.reduceAdd, Nat.reduceSub, Nat.reduceEqDiff, Nat.reduceLeDiff, Nat.reduceLT, Nat.reduceMul, reduceIte, Nat.reducePow, Int.reduceEq]; rfl) ?_; (try dsimp only)))
                        all_goals first
                          | (exfalso; omega)
                          | (have e8 : ((offL rows i pc : Nat) : Int) = o + m := by omega
                             simp only [frzR_agg, List.map_cons, List.map_nil, frzC_v, e8]; rfl)
                          | trace_state
                  · have hend : e = rows.length ∨ (sndR (rows.getD (e - 1) noRw)).2 = false := .inl (by omega)
                    have hwe := he1
                    have hcutL := hlf e (by omega) he2 hew hend
                    have hcr := hr.cut f e (by omega) he2
                    have hcs := cutA_SlH hA' (lo := f) (hi := e) (by omega) (by rw [hr.len]; exact he2)
                    have hJ := fun ys G (x : Ext H' G) => Join_run (ys := ys) (lo := lo') (hcs.ext x) hcr (by rw [cut_len _ _ _ he2]; omega)
                    have hjl : 0 < (joinL ((rows.drop f).take (e - f))).length := joinL_len _ [] (fun z => by have := congrArg List.length z; rw [cut_len _ _ _ he2, List.length_nil] at this; omega)
                    repeat' (first
                     | refine zka ?_
                     | refine zkb ?_
                     | (apply RKp.op; ((try simp (disch := (first | omega | exact zX | exact zO | fail)) only [lenR lo' hA' hr, ixR lo' hA' hr, ldR lo' hA' hr, slR_lohi lo' hA' hr, ee, hwe, Int.toNat_natCast, go_sem, Nat.reduceDiv, Nat.reduceMod, Nat.reduceAdd, Nat.reduceSub, Nat.reduceEqDiff, Nat.reduceLeDiff, Nat.reduceLT, Nat.reduceMul, reduceIte, Nat.reducePow, Int.reduceEq]); exact zL); rfl)
                     | (apply RKp.call; (apply hS2 <;> (exact zD)); rfl)
                     | (apply RKp.callR; (apply hS2 <;> (exact zD)); rfl; intro tr htr)
                     | (apply RKp.callO; (apply hS2 <;> (exact zD)); rfl; intro tr)
                     | (apply RKp.callRE; (apply hS2 <;> (exact zD)); (intro x; rfl))
                     | (apply RKp.callE; (apply hS2 <;> (exact zD)); (intro x; rfl))
                     | (apply RKp.callNE; (apply hJ <;> (exact zD)); (intro x; rfl))
                     | refine zkc ?_
                     | apply RKg.tt
                     | apply RKg.ff
                     | refine zkd ?_
                     | refine zke ?_
                     | refine zkf ?_
                     | (refine RKg.split (fun h => ?_) (fun h => ?_) <;> (try rw [h]) <;> (replace h := zB h) <;> (try (exfalso; first | exact h | omega)))
                     | apply RK.nil
                     | apply V.sq
                     | apply V.bl
                     | apply V.sc
                     | apply V.skip
                     | apply V.label
                     | apply V.ret
                     | apply V.exit
                     | apply SeqQ.normal
                     | apply SeqQ.ret
                     | apply SeqQ.exit
                     | apply BlockQ.normal
                     | apply BlockQ.ret
                     | apply BlockQ.here
                     | refine zbt ?_
                     | apply LoopS.ret
                     | apply LoopS.exit
                     | apply LoopF.ret
                     | apply LoopF.exit
                     | apply V.regK
                     | refine zvd ?_
                     | refine zve ?_
                     | (refine zvf (fun h => ?_) (fun h => ?_) <;> (replace h := zB h) <;> (try (exfalso; first | exact h | omega)))
                      | (refine FnQ.retB (resc Tryz.results31) (by simp (disch := (first | omega | exact zX | exact zO | fail)) only [cellR_op, lenR lo' hA' hr, ixR lo' hA' hr, ldR lo' hA' hr, slR_lohi lo' hA' hr, ee, hwe, Int.toNat_natCast, go_sem, Nat.reduceDiv, Nat.reduceMod, Nat.reduceAdd, Nat.reduceSub, Nat.reduceEqDiff, Nat.reduceLeDiff, Nat.reduceLT, Nat.reduceMul, reduceIte, Nat.reducePow, Int.reduceEq]; rfl) ?_; (try dsimp only)))
                    rintro u H5 tr5 htr5 ⟨ls5, ho5, hl5, hx5, -⟩
                    have n5 := hx5.next
                    have ez : Int.toNat 0 = 0 := rfl
                    have k5 : H5.get (H'.next + 1) = some (spBlk 0 0 0) := by rw [hx5.get _ (by omega)]; exact k1
                    have hlen0 := fun G => len_cell lo' (H := G) (.inl (hl5.sl 0 hjl))
                    have hK40 := hl5.lt 0 hjl
                    rw [hcutL] at hlen0 hK40
                    generalize hK : ((joinL rows).getD (ofN rows i).1 []).length = K at *
                    by_cases hcmp : K < offL rows i pc
                    · rw [if_pos hcmp]
                      rw [hoL] at hcmp
                      repeat' (first
                       | refine zka ?_
                       | refine zkb ?_
                       | (apply RKp.op; ((try simp (disch := (first | omega | exact zX | exact zO | fail)) only [lenL lo' ho5.slh hl5, ixL lo' ho5.slh hl5, ldL lo' ho5.slh hl5, hlen0, k5, ez, Int.toNat_natCast, go_sem, Nat.reduceDiv, Nat.reduceMod, Nat.reduceAdd, Nat.reduceSub, Nat.reduceEqDiff, Nat.reduceLeDiff, Nat.reduceLT, Nat.reduceMul, reduceIte, Nat.reducePow, Int.reduceEq]); exact zL); rfl)
                       | refine zkc ?_
                       | apply RKg.tt
                       | apply RKg.ff
                       | refine zkd ?_
                       | refine zke ?_
                       | refine zkf ?_
                       | (refine RKg.split (fun h => ?_) (fun h => ?_) <;> (try rw [h]) <;> (replace h := zB h) <;> (try (exfalso; first | exact h | omega)))
                       | apply RK.nil
                       | apply V.sq
                       | apply V.bl
                       | apply V.sc
                       | apply V.skip
                       | apply V.label
                       | apply V.ret
                       | apply V.exit
                       | apply SeqQ.normal
                       | apply SeqQ.ret
                       | apply SeqQ.exit
                       | apply BlockQ.normal
                       | apply BlockQ.ret
                       | apply BlockQ.here
                       | refine zbt ?_
                       | apply LoopS.ret
                       | apply LoopS.exit
                       | apply LoopF.ret
                       | apply LoopF.exit
                       | apply V.regK
                       | refine zvd ?_
                       | refine zve ?_
                       | (refine zvf (fun h => ?_) (fun h => ?_) <;> (replace h := zB h) <;> (try (exfalso; first | exact h | omega)))
                        | (refine FnQ.retB (resc Tryz.results31) (by simp (disch := (first | omega | exact zX | exact zO | fail)) only [cellR_op, lenL lo' ho5.slh hl5, ixL lo' ho5.slh hl5, ldL lo' ho5.slh hl5, hlen0, k5, ez, Int.toNat_natCast, go_sem, Nat.reduceDiv, Nat.reduceMod, Nat.reduceAdd, Nat.reduceSub, Nat.reduceEqDiff, Nat.reduceLeDiff, Nat.reduceLT, Nat.reduceMul, reduceIte, Nat.reducePow, Int.reduceEq]; rfl) ?_; (try dsimp only)))
                      all_goals first
                        | (exfalso; omega)
                        | (have e9 : ((offL rows i pc - K : Nat) : Int) = o + m - K := by omega
                           simp only [frzR_agg, List.map_cons, List.map_nil, frzC_v, e9])
                        | trace_state
                    · rw [if_neg hcmp]
                      rw [hoL] at hcmp
                      repeat' (first
                       | refine zka ?_
                       | refine zkb ?_
                       | (apply RKp.op; ((try simp (disch := (first | omega | exact zX | exact zO | fail)) only [lenL lo' ho5.slh hl5, ixL lo' ho5.slh hl5, ldL lo' ho5.slh hl5, hlen0, k5, ez, Int.toNat_natCast, go_sem, Nat.reduceDiv, Nat.reduceMod, Nat.reduceAdd, Nat.reduceSub, Nat.reduceEqDiff, Nat.reduceLeDiff, Nat.reduceLT, Nat.reduceMul, reduceIte, Nat.reducePow, Int.reduceEq]); exact zL); rfl)
                       | refine zkc ?_
                       | apply RKg.tt
                       | apply RKg.ff
                       | refine zkd ?_
                       | refine zke ?_
                       | refine zkf ?_
                       | (refine RKg.split (fun h => ?_) (fun h => ?_) <;> (try rw [h]) <;> (replace h := zB h) <;> (try (exfalso; first | exact h | omega)))
                       | apply RK.nil
                       | apply V.sq
                       | apply V.bl
                       | apply V.sc
                       | apply V.skip
                       | apply V.label
                       | apply V.ret
                       | apply V.exit
                       | apply SeqQ.normal
                       | apply SeqQ.ret
                       | apply SeqQ.exit
                       | apply BlockQ.normal
                       | apply BlockQ.ret
                       | apply BlockQ.here
                       | refine zbt ?_
                       | apply LoopS.ret
                       | apply LoopS.exit
                       | apply LoopF.ret
                       | apply LoopF.exit
                       | apply V.regK
                       | refine zvd ?_
                       | refine zve ?_
                       | (refine zvf (fun h => ?_) (fun h => ?_) <;> (replace h := zB h) <;> (try (exfalso; first | exact h | omega)))
                        | (refine FnQ.retB (resc Tryz.results31) (by simp (disch := (first | omega | exact zX | exact zO | fail)) only [cellR_op, lenL lo' ho5.slh hl5, ixL lo' ho5.slh hl5, ldL lo' ho5.slh hl5, hlen0, k5, ez, Int.toNat_natCast, go_sem, Nat.reduceDiv, Nat.reduceMod, Nat.reduceAdd, Nat.reduceSub, Nat.reduceEqDiff, Nat.reduceLeDiff, Nat.reduceLT, Nat.reduceMul, reduceIte, Nat.reducePow, Int.reduceEq]; rfl) ?_; (try dsimp only)))
                      all_goals first
                        | (exfalso; omega)
                        | (have e8 : ((offL rows i pc : Nat) : Int) = o + m := by omega
                           simp only [frzR_agg, List.map_cons, List.map_nil, frzC_v, e8]; rfl)
                        | trace_state
              · repeat' (first
                 | refine zka ?_
                 | refine zkb ?_
                 | (apply RKp.op; ((try simp (disch := (first | omega | exact zX | exact zO | fail)) only [lenR lo' hA' hr, ixR lo' hA' hr, ldR lo' hA' hr, lenR_cut lo' hA' hr f i, k0, k1, hc0, lnl, ixl, fal, lfl, shl, hslg, hcl, Int.toNat_natCast, go_sem, Nat.reduceDiv, Nat.reduceMod, Nat.reduceAdd, Nat.reduceSub, Nat.reduceEqDiff, Nat.reduceLeDiff, Nat.reduceLT, Nat.reduceMul, reduceIte, Nat.reducePow, Int.reduceEq]); exact zL); rfl)
                 | (apply RKp.call; (apply hS <;> (exact zD)); rfl)
                 | (apply RKp.callR; ((first | apply hS | apply hSg) <;> (exact zD)); rfl; intro tr htr)
                 | (apply RKp.callO; (apply hS <;> (exact zD)); rfl; intro tr)
                 | (apply RKp.callRE; (apply hS <;> (exact zD)); (intro x; rfl))
                 | (apply RKp.callE; (apply hS <;> (exact zD)); (intro x; rfl))
                 | refine zkc ?_
                 | apply RKg.tt
                 | apply RKg.ff
                 | refine zkd ?_
                 | refine zke ?_
                 | refine zkf ?_
                 | (refine RKg.split (fun h => ?_) (fun h => ?_) <;> (try rw [h]) <;> (replace h := zB h) <;> (try (exfalso; first | exact h | omega)))
                 | apply RK.nil
                 | apply V.sq
                 | apply V.bl
                 | apply V.sc
                 | apply V.skip
                 | apply V.label
                 | apply V.ret
                 | apply V.exit
                 | apply SeqQ.normal
                 | apply SeqQ.ret
                 | apply SeqQ.exit
                 | apply BlockQ.normal
                 | apply BlockQ.ret
                 | apply BlockQ.here
                 | refine zbt ?_
                 | apply LoopS.ret
                 | apply LoopS.exit
                 | apply LoopF.ret
                 | apply LoopF.exit
                 | apply V.regK
                 | refine zvd ?_
                 | refine zve ?_
                 | (refine zvf (fun h => ?_) (fun h => ?_) <;> (replace h := zB h) <;> (try (exfalso; first | exact h | omega)))
                  | (refine FnQ.retB (resc Tryz.results31) (by simp (disch := (first | omega | exact zX | exact zO | fail)) only [cellR_op, lenR lo' hA' hr, ixR lo' hA' hr, ldR lo' hA' hr, lenR_cut lo' hA' hr f i, k0, k1, hc0, lnl, ixl, fal, lfl, shl, hslg, hcl, Int.toNat_natCast, go_sem, Nat.reduceDiv, Nat.reduceMod, Nat.reduceAdd, Nat.reduceSub, Nat.reduceEqDiff, Nat.reduceLeDiff, Nat.reduceLT, Nat.reduceMul, reduceIte, Nat.reducePow, Int.reduceEq]; rfl) ?_; (try dsimp only)))
                apply V.lpF [14, 101, 102, 103, 104, 105, 106, 107, 108, 109, 110, 111, 112, 113, 114, 115] (fun k xs => ∃ (e : Nat) (g : _), xs = .v (.int .i64 e) :: g ∧ k = rows.length - e ∧ i + 1 ≤ e ∧ e ≤ rows.length ∧ ∀ j, i ≤ j → j + 1 < e → (sndR (rows.getD j noRw)).2 = true) (rows.length - (i + 1))
                focus (intro xs; simp only [putMany, set2, Nat.reduceAdd, Nat.reduceDiv, Nat.reduceMod, nth_zero, nth_succ, List.set_cons_zero, List.set_cons_succ]; rfl)
                focus (first | rfl | simp only [readMany, nth_zero, nth_succ, Nat.reduceDiv, Nat.reduceMod])
                · exact ⟨i + 1, _, rfl, rfl, Nat.le_refl _, hi0, fun j h1 h2 => by omega⟩
                · rintro k xs ⟨e, g, rfl, rfl, he1, he2, hew⟩
                  have hS2 := hsd (e - 1) (by omega)
                  have ee : ((e : Int) - 1).toNat = e - 1 := by omega
                  by_cases hle : e < rows.length
                  · cases hwe : (sndR (rows.getD (e - 1) noRw)).2 with
                    | true =>
                      rw [hwe] at hS2
                      repeat' (first
                       | refine zka ?_
                       | refine zkb ?_
                       | (apply RKp.op; ((try simp (disch := (first | omega | exact zX | exact zO | fail)) only [lenR lo' hA' hr, ixR lo' hA' hr, ldR lo' hA' hr, ee, hwe, Int.toNat_natCast, go_sem, Nat.reduceDiv, Nat.reduceMod, Nat.reduceAdd, Nat.reduceSub, Nat.reduceEqDiff, Nat.reduceLeDiff, Nat.reduceLT, Nat.reduceMul, reduceIte, Nat.reducePow, Int.reduceEq]); exact zL); rfl)
                       | (apply RKp.call; (apply hS2 <;> (exact zD)); rfl)
                       | (apply RKp.callR; (apply hS2 <;> (exact zD)); rfl; intro tr htr)
                       | (apply RKp.callO; (apply hS2 <;> (exact zD)); rfl; intro tr)
                       | (apply RKp.callRE; (apply hS2 <;> (exact zD)); (intro x; rfl))
                       | (apply RKp.callE; (apply hS2 <;> (exact zD)); (intro x; rfl))
                       | refine zkc ?_
                       | apply RKg.tt
                       | apply RKg.ff
                       | refine zkd ?_
                       | refine zke ?_
                       | refine zkf ?_
                       | (refine RKg.split (fun h => ?_) (fun h => ?_) <;> (try rw [h]) <;> (replace h := zB h) <;> (try (exfalso; first | exact h | omega)))
                       | apply RK.nil
                       | apply V.sq
                       | apply V.bl
                       | apply V.sc
                       | apply V.skip
                       | apply V.label
                       | apply V.ret
                       | apply V.exit
                       | apply SeqQ.normal
                       | apply SeqQ.ret
                       | apply SeqQ.exit
                       | apply BlockQ.normal
                       | apply BlockQ.ret
                       | apply BlockQ.here
                       | refine zbt ?_
                       | apply LoopS.ret
                       | apply LoopS.exit
                       | apply LoopF.ret
                       | apply LoopF.exit
                       | apply V.regK
                       | refine zvd ?_
                       | refine zve ?_
                       | (refine zvf (fun h => ?_) (fun h => ?_) <;> (replace h := zB h) <;> (try (exfalso; first | exact h | omega)))
                        | (refine FnQ.retB (resc Tryz.results31) (by simp (disch := (first | omega | exact zX | exact zO | fail)) only [cellR_op, lenR lo' hA' hr, ixR lo' hA' hr, ldR lo' hA' hr, ee, hwe, Int.toNat_natCast, go_sem, Nat.reduceDiv, Nat.reduceMod, Nat.reduceAdd, Nat.reduceSub, Nat.reduceEqDiff, Nat.reduceLeDiff, Nat.reduceLT, Nat.reduceMul, reduceIte, Nat.reducePow, Int.reduceEq]; rfl) ?_; (try dsimp only)))
                      refine LoopF.again (rows.length - (e + 1)) (by rfl) (by omega) ⟨e + 1, _, rfl, rfl, by omega, by omega, fun j h1 h2 => ?_⟩
                      rcases Nat.lt_or_ge (j + 1) e with q | q
                      · exact hew j h1 q
                      · obtain rfl : j = e - 1 := by omega
                        exact hwe
                    | false =>
                      have hend : e = rows.length ∨ (sndR (rows.getD (e - 1) noRw)).2 = false := .inr hwe
                      have hcutL := hlf e (by omega) he2 hew hend
                      have hcr := hr.cut f e (by omega) he2
                      have hcs := cutA_SlH hA' (lo := f) (hi := e) (by omega) (by rw [hr.len]; exact he2)
                      have hJ := fun ys G (x : Ext H' G) => Join_run (ys := ys) (lo := lo') (hcs.ext x) hcr (by rw [cut_len _ _ _ he2]; omega)
                      have hjl : 0 < (joinL ((rows.drop f).take (e - f))).length := joinL_len _ [] (fun z => by have := congrArg List.length z; rw [cut_len _ _ _ he2, List.length_nil] at this; omega)
                      repeat' (first
                       | refine zka ?_
                       | refine zkb ?_
                       | (apply RKp.op; ((try simp (disch := (first | omega | exact zX | exact zO | fail)) only [lenR lo' hA' hr, ixR lo' hA' hr, ldR lo' hA' hr, slR_lohi lo' hA' hr, ee, hwe, Int.toNat_natCast, go_sem, Nat.reduceDiv, Nat.reduceMod, Nat.reduceAdd, Nat.reduceSub, Nat.reduceEqDiff, Nat.reduceLeDiff, Nat.reduceLT, Nat.reduceMul, reduceIte, Nat.reducePow, Int.reduceEq]); exact zL); rfl)
                       | (apply RKp.call; (apply hS2 <;> (exact zD)); rfl)
                       | (apply RKp.callR; (apply hS2 <;> (exact zD)); rfl; intro tr htr)
                       | (apply RKp.callO; (apply hS2 <;> (exact zD)); rfl; intro tr)
                       | (apply RKp.callRE; (apply hS2 <;> (exact zD)); (intro x; rfl))
                       | (apply RKp.callE; (apply hS2 <;> (exact zD)); (intro x; rfl))
                       | (apply RKp.callNE; (apply hJ <;> (exact zD)); (intro x; rfl))
                       | refine zkc ?_
                       | apply RKg.tt
                       | apply RKg.ff
                       | refine zkd ?_
                       | refine zke ?_
                       | refine zkf ?_
                       | (refine RKg.split (fun h => ?_) (fun h => ?_) <;> (try rw [h]) <;> (replace h := zB h) <;> (try (exfalso; first | exact h | omega)))
                       | apply RK.nil
                       | apply V.sq
                       | apply V.bl
                       | apply V.sc
                       | apply V.skip
                       | apply V.label
                       | apply V.ret
                       | apply V.exit
                       | apply SeqQ.normal
                       | apply SeqQ.ret
                       | apply SeqQ.exit
                       | apply BlockQ.normal
                       | apply BlockQ.ret
                       | apply BlockQ.here
                       | refine zbt ?_
                       | apply LoopS.ret
                       | apply LoopS.exit
                       | apply LoopF.ret
                       | apply LoopF.exit
                       | apply V.regK
                       | refine zvd ?_
                       | refine zve ?_
                       | (refine zvf (fun h => ?_) (fun h => ?_) <;> (replace h := zB h) <;> (try (exfalso; first | exact h | omega)))
                        | (refine FnQ.retB (resc Tryz.results31) (by simp (disch := (first | omega | exact zX | exact zO | fail)) only [cellR_op, lenR lo' hA' hr, ixR lo' hA' hr, ldR lo' hA' hr, slR_lohi lo' hA' hr, ee, hwe, Int.toNat_natCast, go_sem, Nat.reduceDiv, Nat.reduceMod, Nat.reduceAdd, Nat.reduceSub, Nat.reduceEqDiff, Nat.reduceLeDiff, Nat.reduceLT, Nat.reduceMul, reduceIte, Nat.reducePow, Int.reduceEq]; rfl) ?_; (try dsimp only)))
                      rintro u H5 tr5 htr5 ⟨ls5, ho5, hl5, hx5, -⟩
                      have n5 := hx5.next
                      have ez : Int.toNat 0 = 0 := rfl
                      have k5 : H5.get (H'.next + 1) = some (spBlk 0 0 0) := by rw [hx5.get _ (by omega)]; exact k1
                      have hlen0 := fun G => len_cell lo' (H := G) (.inl (hl5.sl 0 hjl))
                      have hK40 := hl5.lt 0 hjl
                      rw [hcutL] at hlen0 hK40
                      generalize hK : ((joinL rows).getD (ofN rows i).1 []).length = K at *
                      by_cases hcmp : K < offL rows i pc
                      · rw [if_pos hcmp]
                        rw [hoL] at hcmp
                        repeat' (first
                         | refine zka ?_
                         | refine zkb ?_
                         | (apply RKp.op; ((try simp (disch := (first | omega | exact zX | exact zO | fail)) only [lenL lo' ho5.slh hl5, ixL lo' ho5.slh hl5, ldL lo' ho5.slh hl5, hlen0, k5, ez, Int.toNat_natCast, go_sem, Nat.reduceDiv, Nat.reduceMod, Nat.reduceAdd, Nat.reduceSub, Nat.reduceEqDiff, Nat.reduceLeDiff, Nat.reduceLT, Nat.reduceMul, reduceIte, Nat.reducePow, Int.reduceEq]); exact zL); rfl)
                         | refine zkc ?_
                         | apply RKg.tt
                         | apply RKg.ff
                         | refine zkd ?_
                         | refine zke ?_
                         | refine zkf ?_
                         | (refine RKg.split (fun h => ?_) (fun h => ?_) <;> (try rw [h]) <;> (replace h := zB h) <;> (try (exfalso; first | exact h | omega)))
                         | apply RK.nil
                         | apply V.sq
                         | apply V.bl
                         | apply V.sc
                         | apply V.skip
                         | apply V.label
                         | apply V.ret
                         | apply V.exit
                         | apply SeqQ.normal
                         | apply SeqQ.ret
                         | apply SeqQ.exit
                         | apply BlockQ.normal
                         | apply BlockQ.ret
                         | apply BlockQ.here
                         | refine zbt ?_
                         | apply LoopS.ret
                         | apply LoopS.exit
                         | apply LoopF.ret
                         | apply LoopF.exit
                         | apply V.regK
                         | refine zvd ?_
                         | refine zve ?_
                         | (refine zvf (fun h => ?_) (fun h => ?_) <;> (replace h := zB h) <;> (try (exfalso; first | exact h | omega)))
                          | (refine FnQ.retB (resc Tryz.results31) (by simp (disch := (first | omega | exact zX | exact zO | fail)) only [cellR_op, lenL lo' ho5.slh hl5, ixL lo' ho5.slh hl5, ldL lo' ho5.slh hl5, hlen0, k5, ez, Int.toNat_natCast, go_sem, Nat.reduceDiv, Nat.reduceMod, Nat.reduceAdd, Nat.reduceSub, Nat.reduceEqDiff, Nat.reduceLeDiff, Nat.reduceLT, Nat.reduceMul, reduceIte, Nat.reducePow, Int.reduceEq]; rfl) ?_; (try dsimp only)))
                        all_goals first
                          | (exfalso; omega)
                          | (have e9 : ((offL rows i pc - K : Nat) : Int) = o + m - K := by omega
                             simp only [frzR_agg, List.map_cons, List.map_nil, frzC_v, e9])
                          | trace_state
                      · rw [if_neg hcmp]
                        rw [hoL] at hcmp
                        repeat' (first
                         | refine zka ?_
                         | refine zkb ?_
                         | (apply RKp.op; ((try simp (disch := (first | omega | exact zX | exact zO | fail)) only [lenL lo' ho5.slh hl5, ixL lo' ho5.slh hl5, ldL lo' ho5.slh hl5, hlen0, k5, ez, Int.toNat_natCast, go_sem, Nat.reduceDiv, Nat.reduceMod, Nat.reduceAdd, Nat.reduceSub, Nat.reduceEqDiff, Nat.reduceLeDiff, Nat.reduceLT, Nat.reduceMul, reduceIte, Nat.reducePow, Int.reduceEq]); exact zL); rfl)
                         | refine zkc ?_
                         | apply RKg.tt
                         | apply RKg.ff
                         | refine zkd ?_
                         | refine zke ?_
                         | refine zkf ?_
                         | (refine RKg.split (fun h => ?_) (fun h => ?_) <;> (try rw [h]) <;> (replace h := zB h) <;> (try (exfalso; first | exact h | omega)))
                         | apply RK.nil
                         | apply V.sq
                         | apply V.bl
                         | apply V.sc
                         | apply V.skip
                         | apply V.label
                         | apply V.ret
                         | apply V.exit
                         | apply SeqQ.normal
                         | apply SeqQ.ret
                         | apply SeqQ.exit
                         | apply BlockQ.normal
                         | apply BlockQ.ret
                         | apply BlockQ.here
                         | refine zbt ?_
                         | apply LoopS.ret
                         | apply LoopS.exit
                         | apply LoopF.ret
                         | apply LoopF.exit
                         | apply V.regK
                         | refine zvd ?_
                         | refine zve ?_
                         | (refine zvf (fun h => ?_) (fun h => ?_) <;> (replace h := zB h) <;> (try (exfalso; first | exact h | omega)))
                          | (refine FnQ.retB (resc Tryz.results31) (by simp (disch := (first | omega | exact zX | exact zO | fail)) only [cellR_op, lenL lo' ho5.slh hl5, ixL lo' ho5.slh hl5, ldL lo' ho5.slh hl5, hlen0, k5, ez, Int.toNat_natCast, go_sem, Nat.reduceDiv, Nat.reduceMod, Nat.reduceAdd, Nat.reduceSub, Nat.reduceEqDiff, Nat.reduceLeDiff, Nat.reduceLT, Nat.reduceMul, reduceIte, Nat.reducePow, Int.reduceEq]; rfl) ?_; (try dsimp only)))
                        all_goals first
                          | (exfalso; omega)
                          | (have e8 : ((offL rows i pc : Nat) : Int) = o + m := by omega
                             simp only [frzR_agg, List.map_cons, List.map_nil, frzC_v, e8]; rfl)
                          | trace_state
                  · have hend : e = rows.length ∨ (sndR (rows.getD (e - 1) noRw)).2 = false := .inl (by omega)
                    have hwe := he1
                    have hcutL := hlf e (by omega) he2 hew hend
                    have hcr := hr.cut f e (by omega) he2
                    have hcs := cutA_SlH hA' (lo := f) (hi := e) (by omega) (by rw [hr.len]; exact he2)
                    have hJ := fun ys G (x : Ext H' G) => Join_run (ys := ys) (lo := lo') (hcs.ext x) hcr (by rw [cut_len _ _ _ he2]; omega)
                    have hjl : 0 < (joinL ((rows.drop f).take (e - f))).length := joinL_len _ [] (fun z => by have := congrArg List.length z; rw [cut_len _ _ _ he2, List.length_nil] at this; omega)
                    repeat' (first
                     | refine zka ?_
                     | refine zkb ?_
                     | (apply RKp.op; ((try simp (disch := (first | omega | exact zX | exact zO | fail)) only [lenR lo' hA' hr, ixR lo' hA' hr, ldR lo' hA' hr, slR_lohi lo' hA' hr, ee, hwe, Int.toNat_natCast, go_sem, Nat.reduceDiv, Nat.reduceMod, Nat.reduceAdd, Nat.reduceSub, Nat.reduceEqDiff, Nat.reduceLeDiff, Nat.reduceLT, Nat.reduceMul, reduceIte, Nat.reducePow, Int.reduceEq]); exact zL); rfl)
                     | (apply RKp.call; (apply hS2 <;> (exact zD)); rfl)
                     | (apply RKp.callR; (apply hS2 <;> (exact zD)); rfl; intro tr htr)
                     | (apply RKp.callO; (apply hS2 <;> (exact zD)); rfl; intro tr)
                     | (apply RKp.callRE; (apply hS2 <;> (exact zD)); (intro x; rfl))
                     | (apply RKp.callE; (apply hS2 <;> (exact zD)); (intro x; rfl))
                     | (apply RKp.callNE; (apply hJ <;> (exact zD)); (intro x; rfl))
                     | refine zkc ?_
                     | apply RKg.tt
                     | apply RKg.ff
                     | refine zkd ?_
                     | refine zke ?_
                     | refine zkf ?_
                     | (refine RKg.split (fun h => ?_) (fun h => ?_) <;> (try rw [h]) <;> (replace h := zB h) <;> (try (exfalso; first | exact h | omega)))
                     | apply RK.nil
                     | apply V.sq
                     | apply V.bl
                     | apply V.sc
                     | apply V.skip
                     | apply V.label
                     | apply V.ret
                     | apply V.exit
                     | apply SeqQ.normal
                     | apply SeqQ.ret
                     | apply SeqQ.exit
                     | apply BlockQ.normal
                     | apply BlockQ.ret
                     | apply BlockQ.here
                     | refine zbt ?_
                     | apply LoopS.ret
                     | apply LoopS.exit
                     | apply LoopF.ret
                     | apply LoopF.exit
                     | apply V.regK
                     | refine zvd ?_
                     | refine zve ?_
                     | (refine zvf (fun h => ?_) (fun h => ?_) <;> (replace h := zB h) <;> (try (exfalso; first | exact h | omega)))
                      | (refine FnQ.retB (resc Tryz.results31) (by simp (disch := (first | omega | exact zX | exact zO | fail)) only [cellR_op, lenR lo' hA' hr, ixR lo' hA' hr, ldR lo' hA' hr, slR_lohi lo' hA' hr, ee, hwe, Int.toNat_natCast, go_sem, Nat.reduceDiv, Nat.reduceMod, Nat.reduceAdd, Nat.reduceSub, Nat.reduceEqDiff, Nat.reduceLeDiff, Nat.reduceLT, Nat.reduceMul, reduceIte, Nat.reducePow, Int.reduceEq]; rfl) ?_; (try dsimp only)))
                    rintro u H5 tr5 htr5 ⟨ls5, ho5, hl5, hx5, -⟩
                    have n5 := hx5.next
                    have ez : Int.toNat 0 = 0 := rfl
                    have k5 : H5.get (H'.next + 1) = some (spBlk 0 0 0) := by rw [hx5.get _ (by omega)]; exact k1
                    have hlen0 := fun G => len_cell lo' (H := G) (.inl (hl5.sl 0 hjl))
                    have hK40 := hl5.lt 0 hjl
                    rw [hcutL] at hlen0 hK40
                    generalize hK : ((joinL rows).getD (ofN rows i).1 []).length = K at *
                    by_cases hcmp : K < offL rows i pc
                    · rw [if_pos hcmp]
                      rw [hoL] at hcmp
                      repeat' (first
                       | refine zka ?_
                       | refine zkb ?_
                       | (apply RKp.op; ((try simp (disch := (first | omega | exact zX | exact zO | fail)) only [lenL lo' ho5.slh hl5, ixL lo' ho5.slh hl5, ldL lo' ho5.slh hl5, hlen0, k5, ez, Int.toNat_natCast, go_sem, Nat.reduceDiv, Nat.reduceMod, Nat.reduceAdd, Nat.reduceSub, Nat.reduceEqDiff, Nat.reduceLeDiff, Nat.reduceLT, Nat.reduceMul, reduceIte, Nat.reducePow, Int.reduceEq]); exact zL); rfl)
                       | refine zkc ?_
                       | apply RKg.tt
                       | apply RKg.ff
                       | refine zkd ?_
                       | refine zke ?_
                       | refine zkf ?_
                       | (refine RKg.split (fun h => ?_) (fun h => ?_) <;> (try rw [h]) <;> (replace h := zB h) <;> (try (exfalso; first | exact h | omega)))
                       | apply RK.nil
                       | apply V.sq
                       | apply V.bl
                       | apply V.sc
                       | apply V.skip
                       | apply V.label
                       | apply V.ret
                       | apply V.exit
                       | apply SeqQ.normal
                       | apply SeqQ.ret
                       | apply SeqQ.exit
                       | apply BlockQ.normal
                       | apply BlockQ.ret
                       | apply BlockQ.here
                       | refine zbt ?_
                       | apply LoopS.ret
                       | apply LoopS.exit
                       | apply LoopF.ret
                       | apply LoopF.exit
                       | apply V.regK
                       | refine zvd ?_
                       | refine zve ?_
                       | (refine zvf (fun h => ?_) (fun h => ?_) <;> (replace h := zB h) <;> (try (exfalso; first | exact h | omega)))
                        | (refine FnQ.retB (resc Tryz.results31) (by simp (disch := (first | omega | exact zX | exact zO | fail)) only [cellR_op, lenL lo' ho5.slh hl5, ixL lo' ho5.slh hl5, ldL lo' ho5.slh hl5, hlen0, k5, ez, Int.toNat_natCast, go_sem, Nat.reduceDiv, Nat.reduceMod, Nat.reduceAdd, Nat.reduceSub, Nat.reduceEqDiff, Nat.reduceLeDiff, Nat.reduceLT, Nat.reduceMul, reduceIte, Nat.reducePow, Int.reduceEq]; rfl) ?_; (try dsimp only)))
                      all_goals first
                        | (exfalso; omega)
                        | (have e9 : ((offL rows i pc - K : Nat) : Int) = o + m - K := by omega
                           simp only [frzR_agg, List.map_cons, List.map_nil, frzC_v, e9])
                        | trace_state
                    · rw [if_neg hcmp]
                      rw [hoL] at hcmp
                      repeat' (first
                       | refine zka ?_
                       | refine zkb ?_
                       | (apply RKp.op; ((try simp (disch := (first | omega | exact zX | exact zO | fail)) only [lenL lo' ho5.slh hl5, ixL lo' ho5.slh hl5, ldL lo' ho5.slh hl5, hlen0, k5, ez, Int.toNat_natCast, go_sem, Nat.reduceDiv, Nat.reduceMod, Nat.reduceAdd, Nat.reduceSub, Nat.reduceEqDiff, Nat.reduceLeDiff, Nat.reduceLT, Nat.reduceMul, reduceIte, Nat.reducePow, Int.reduceEq]); exact zL); rfl)
                       | refine zkc ?_
                       | apply RKg.tt
                       | apply RKg.ff
                       | refine zkd ?_
                       | refine zke ?_
                       | refine zkf ?_
                       | (refine RKg.split (fun h => ?_) (fun h => ?_) <;> (try rw [h]) <;> (replace h := zB h) <;> (try (exfalso; first | exact h | omega)))
                       | apply RK.nil
                       | apply V.sq
                       | apply V.bl
                       | apply V.sc
                       | apply V.skip
                       | apply V.label
                       | apply V.ret
                       | apply V.exit
                       | apply SeqQ.normal
                       | apply SeqQ.ret
                       | apply SeqQ.exit
                       | apply BlockQ.normal
                       | apply BlockQ.ret
                       | apply BlockQ.here
                       | refine zbt ?_
                       | apply LoopS.ret
                       | apply LoopS.exit
                       | apply LoopF.ret
                       | apply LoopF.exit
                       | apply V.regK
                       | refine zvd ?_
                       | refine zve ?_
                       | (refine zvf (fun h => ?_) (fun h => ?_) <;> (replace h := zB h) <;> (try (exfalso; first | exact h | omega)))
                        | (refine FnQ.retB (resc Tryz.results31) (by simp (disch := (first | omega | exact zX | exact zO | fail)) only [cellR_op, lenL lo' ho5.slh hl5, ixL lo' ho5.slh hl5, ldL lo' ho5.slh hl5, hlen0, k5, ez, Int.toNat_natCast, go_sem, Nat.reduceDiv, Nat.reduceMod, Nat.reduceAdd, Nat.reduceSub, Nat.reduceEqDiff, Nat.reduceLeDiff, Nat.reduceLT, Nat.reduceMul, reduceIte, Nat.reducePow, Int.reduceEq]; rfl) ?_; (try dsimp only)))
                      all_goals first
                        | (exfalso; omega)
                        | (have e8 : ((offL rows i pc : Nat) : Int) = o + m := by omega
                           simp only [frzR_agg, List.map_cons, List.map_nil, frzC_v, e8]; rfl)
                        | trace_state
  · have hsp : spotL rows pr pc = (0, 0, 0) := if_neg hok
    rw [hsp]
    refine zvin Tryz.func31 Tryz.ntmps31 ?_
    repeat' (first
     | refine zka ?_
     | refine zkb ?_
     | (apply RKp.op; ((try simp (disch := (first | omega | exact zX | exact zO | fail)) only [lenR lo' hA' hr, go_sem, Nat.reduceDiv, Nat.reduceMod, Nat.reduceAdd, Nat.reduceSub, Nat.reduceEqDiff, Nat.reduceLeDiff, Nat.reduceLT, Nat.reduceMul, reduceIte, Nat.reducePow, Int.reduceEq]); exact zL); rfl)
     | refine zkc ?_
     | apply RKg.tt
     | apply RKg.ff
     | refine zkd ?_
     | refine zke ?_
     | refine zkf ?_
     | (refine RKg.split (fun h => ?_) (fun h => ?_) <;> (try rw [h]) <;> (replace h := zB h) <;> (try (exfalso; first | exact h | omega)))
     | apply RK.nil
     | apply V.sq
     | apply V.bl
     | apply V.sc
     | apply V.skip
     | apply V.label
     | apply V.ret
     | apply V.exit
     | apply SeqQ.normal
     | apply SeqQ.ret
     | apply SeqQ.exit
     | apply BlockQ.normal
     | apply BlockQ.ret
     | apply BlockQ.here
     | refine zbt ?_
     | apply LoopS.ret
     | apply LoopS.exit
     | apply LoopF.ret
     | apply LoopF.exit
     | apply V.regK
     | refine zvd ?_
     | refine zve ?_
     | (refine zvf (fun h => ?_) (fun h => ?_) <;> (replace h := zB h) <;> (try (exfalso; first | exact h | omega)))
      | (refine FnQ.retB (resc Tryz.results31) (by simp (disch := (first | omega | exact zX | exact zO | fail)) only [cellR_op, lenR lo' hA' hr, go_sem, Nat.reduceDiv, Nat.reduceMod, Nat.reduceAdd, Nat.reduceSub, Nat.reduceEqDiff, Nat.reduceLeDiff, Nat.reduceLT, Nat.reduceMul, reduceIte, Nat.reducePow, Int.reduceEq]; rfl) ?_; (try dsimp only)))
    all_goals first
      | (exfalso; omega)
      | rfl
      | trace_state
end
end Go.Am
