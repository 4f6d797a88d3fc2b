
/- Lines: all laid out; the program's spots and places. -/
import Derived.Test.YtmcimfmibpfnhaaGreatRLinE
set_option linter.all false
set_option linter.deprecated false
namespace Go.Am
variable {oc : Orc} [OrcI oc]
open Go.Proofs
set_option maxRecDepth 8000
set_option maxHeartbeats 8000000
theorem layL_le (l : List Ce) (w : Int) : (layL l w).length ≤ l.length + 1 := by
  unfold layL
  split
  · have : ∀ (l cur : List Ce), (lay w.toNat cur l).length ≤ l.length + 1 := by
      intro l
      induction l with
      | nil => intro cur; exact Nat.le_refl 1
      | cons c l ih =>
        intro cur
        unfold lay
        split
        · rw [List.length_cons, List.length_cons]; have := ih (cellsC c); omega
        · rw [List.length_cons]; have := ih (cur ++ cellsC c); omega
    exact this l []
  · exact Nat.zero_le _
theorem allL_take {ls : List (List Ce)} {w : Int} {i : Nat} (hi : i < ls.length) : allL (ls.take (i + 1)) w = allL (ls.take i) w ++ layL (ls.getD i []) w := by
  rw [List.take_add_one, List.getElem?_eq_getElem hi, allL_app, List.getD_eq_getElem?_getD, List.getElem?_eq_getElem hi]
  show _ ++ (layL _ w ++ allL [] w) = _
  rw [show allL [] w = [] from rfl, List.append_nil]; rfl
theorem allL_le (ls : List (List Ce)) (w : Int) (i : Nat) : (allL (ls.take i) w).length ≤ (allL ls w).length := by
  have e : allL ls w = allL (ls.take i) w ++ allL (ls.drop i) w := by rw [← allL_app, List.take_append_drop]
  rw [e, List.length_append]; omega
section
variable {ys : List (Nat × LRec)} {lo : Nat} {H : AHeap} {A : AV} {es : List (List AV)} {ls : List (List Ce)} {rows : List Rw}
theorem All_run (hA : SlH H 1 A es) (hr : LsP es ls) (w : Int) (hb : (allL ls w).length < 2 ^ 40) (hbl : ls.length < 2 ^ 40) : CallRo (ELo oc) ys lo 25 [A, .v (.int .i64 w)] H (rwA (allL ls w)) := by
  refine WC.pureR rfl fun lo' H' hh => ?_
  have hA' := hA.two (.inr ⟨[], .inr (by simp)⟩) hh
  have hlo := lo_two hh
  refine zvin Tryz.func25 Tryz.ntmps25 ?_
  repeat' (first
   | refine zka ?_
   | refine zkb ?_
   | (apply RKp.op; ((try simp (disch := (first | omega | exact zX | exact zO | fail)) only [lenL lo' hA' hr, go_sem, Nat.reduceDiv, Nat.reduceMod, Nat.reduceAdd, Nat.reduceSub, Nat.reduceEqDiff, Nat.reduceLeDiff, Nat.reduceLT, Nat.reduceMul, reduceIte, Nat.reducePow, Int.reduceEq]); exact zL); rfl)
   | refine zkc ?_
   | apply RKg.tt
   | apply RKg.ff
   | refine zkd ?_
   | refine zke ?_
   | refine zkf ?_
   | (refine RKg.split (fun h => ?_) (fun h => ?_) <;> (try rw [h]) <;> (replace h := zB h) <;> (try (exfalso; first | exact h | omega)))
   | apply RK.nil
   | apply V.sq
   | apply V.bl
   | apply V.sc
   | apply V.skip
   | apply V.label
   | apply V.ret
   | apply V.exit
   | apply SeqQ.normal
   | apply SeqQ.ret
   | apply SeqQ.exit
   | apply BlockQ.normal
   | apply BlockQ.ret
   | apply BlockQ.here
   | refine zbt ?_
   | apply LoopS.ret
   | apply LoopS.exit
   | apply LoopF.ret
   | apply LoopF.exit
   | apply V.regK
   | refine zvd ?_
   | refine zve ?_
   | (refine zvf (fun h => ?_) (fun h => ?_) <;> (replace h := zB h) <;> (try (exfalso; first | exact h | omega)))
    | (refine zfc Tryz.results25 ?_; (try dsimp only)))
  apply V.lpS [10, 5, 7, 11, 12, 13, 14, 15, 16, 17, 18, 19] (fun k xs H2 => ∃ (i : Nat) (x : AV) (g : _), xs = .v (.int .i64 i) :: x :: g ∧ k = ls.length - i ∧ i ≤ ls.length ∧ Ext H' H2 ∧ OwS H2 H'.next 48 2 x (rowsA (allL (ls.take i) w)) ∧ (allL (ls.take i) w = [] → x = nilA)) ls.length
  focus (intro xs; simp only [putMany, set2, Nat.reduceAdd, Nat.reduceDiv, Nat.reduceMod, nth_zero, nth_succ, List.set_cons_zero, List.set_cons_succ]; rfl)
  focus (first | rfl | simp only [readMany, nth_zero, nth_succ, Nat.reduceDiv, Nat.reduceMod])
  · exact ⟨0, _, _, rfl, rfl, Nat.zero_le _, Ext.refl _, OwS.nil _ _ _ _, fun _ => rfl⟩
  · rintro k xs H2 ⟨i, x, g, rfl, rfl, hi, hx, ho, h0⟩
    have hn2 := hx.next
    have hA2 := hA'.ext hx
    by_cases hlt : i < ls.length
    · have hl1 := allL_le ls w (i + 1)
      have htk := allL_take (w := w) hlt
      rw [htk, List.length_append] at hl1
      have hLay := fun ys G => Layout_run (ys := ys) (lo := lo') (H := G) (.inl (hr.sl i hlt)) (hr.lt i hlt) w
      by_cases hz : layL (ls.getD i []) w = [] ∧ x = nilA
      · obtain ⟨z1, rfl⟩ := hz
        rw [z1, List.append_nil] at htk
        have hap0 : ∀ G, primL lo' G (appendA (ELo oc) 22 (.v (.slice none 0 0)) (.v (.slice none 0 0))) = some (.v (.slice none 0 0), G, rdTr (.v (.slice none 0 0))) := fun G => append_new0 (ELo oc) lo' (.inr rfl) app_row' (.inl (.inr ⟨rfl, .inr rfl⟩))
        rw [z1] at hLay
        have hz2 : rwA [] = .v (.slice none 0 0) := rfl
        rw [hz2] at hLay
        unfold nilA at *
        repeat' (first
         | refine zka ?_
         | refine zkb ?_
         | (apply RKp.op; ((try simp (disch := (first | omega | exact zX | exact zO | fail)) only [hap0, lenL lo' hA2 hr, ixL lo' hA2 hr, ldL lo' hA2 hr, Int.toNat_natCast, go_sem, Nat.reduceDiv, Nat.reduceMod, Nat.reduceAdd, Nat.reduceSub, Nat.reduceEqDiff, Nat.reduceLeDiff, Nat.reduceLT, Nat.reduceMul, reduceIte, Nat.reducePow, Int.reduceEq]); exact zL); rfl)
         | (apply RKp.callR; (apply hLay <;> (exact zD)); rfl; intro tr htr)
         | refine zkc ?_
         | apply RKg.tt
         | apply RKg.ff
         | refine zkd ?_
         | refine zke ?_
         | refine zkf ?_
         | (refine RKg.split (fun h => ?_) (fun h => ?_) <;> (try rw [h]) <;> (replace h := zB h) <;> (try (exfalso; first | exact h | omega)))
         | apply RK.nil
         | apply V.sq
         | apply V.bl
         | apply V.sc
         | apply V.skip
         | apply V.label
         | apply V.ret
         | apply V.exit
         | apply SeqQ.normal
         | apply SeqQ.ret
         | apply SeqQ.exit
         | apply BlockQ.normal
         | apply BlockQ.ret
         | apply BlockQ.here
         | refine zbt ?_
         | apply LoopS.ret
         | apply LoopS.exit
         | apply LoopF.ret
         | apply LoopF.exit
         | apply V.regK
         | refine zvd ?_
         | refine zve ?_
         | (refine zvf (fun h => ?_) (fun h => ?_) <;> (replace h := zB h) <;> (try (exfalso; first | exact h | omega)))
          | (refine zfc Tryz.results25 ?_; (try dsimp only)))
        exact LoopS.again (ls.length - (i + 1)) (by rfl) (by omega) ⟨i + 1, _, _, rfl, rfl, by omega, hx, by rw [htk]; exact ho, fun _ => rfl⟩
      · obtain ⟨x', H3, tr3, happ, ho', hnx, hfr, hjs, hnm⟩ := ho.addN (ELo oc) lo' app_row' (.inl (rwA_Sl (layL (ls.getD i []) w))) (fun k _ hk => (rwA_Sl _).nmO hk) (by omega) (by omega) (by rw [rowsA_len, rowsA_len]; unfold roomMax; omega)
        have hx3 : Ext H' H3 := ⟨by omega, fun k hk => by rw [hfr k (by omega) (fun z => by have := ho.nm z; omega), hx.get k hk]⟩
        rw [← rowsA_app, ← htk] at ho'
        repeat' (first
         | refine zka ?_
         | refine zkb ?_
         | (apply RKp.op; ((try simp (disch := (first | omega | exact zX | exact zO | fail)) only [happ, lenL lo' hA2 hr, ixL lo' hA2 hr, ldL lo' hA2 hr, Int.toNat_natCast, go_sem, Nat.reduceDiv, Nat.reduceMod, Nat.reduceAdd, Nat.reduceSub, Nat.reduceEqDiff, Nat.reduceLeDiff, Nat.reduceLT, Nat.reduceMul, reduceIte, Nat.reducePow, Int.reduceEq]); exact zL); rfl)
         | (apply RKp.callR; (apply hLay <;> (exact zD)); rfl; intro tr htr)
         | refine zkc ?_
         | apply RKg.tt
         | apply RKg.ff
         | refine zkd ?_
         | refine zke ?_
         | refine zkf ?_
         | (refine RKg.split (fun h => ?_) (fun h => ?_) <;> (try rw [h]) <;> (replace h := zB h) <;> (try (exfalso; first | exact h | omega)))
         | apply RK.nil
         | apply V.sq
         | apply V.bl
         | apply V.sc
         | apply V.skip
         | apply V.label
         | apply V.ret
         | apply V.exit
         | apply SeqQ.normal
         | apply SeqQ.ret
         | apply SeqQ.exit
         | apply BlockQ.normal
         | apply BlockQ.ret
         | apply BlockQ.here
         | refine zbt ?_
         | apply LoopS.ret
         | apply LoopS.exit
         | apply LoopF.ret
         | apply LoopF.exit
         | apply V.regK
         | refine zvd ?_
         | refine zve ?_
         | (refine zvf (fun h => ?_) (fun h => ?_) <;> (replace h := zB h) <;> (try (exfalso; first | exact h | omega)))
          | (refine zfc Tryz.results25 ?_; (try dsimp only)))
        refine LoopS.again (ls.length - (i + 1)) (by rfl) (by omega) ⟨i + 1, x', _, rfl, rfl, by omega, hx3, ho', fun z => ?_⟩
        rw [htk, List.append_eq_nil_iff] at z
        exact absurd ⟨z.2, h0 z.1⟩ hz
    · have e : i = ls.length := by omega
      subst e
      rw [List.take_length] at ho h0
      repeat' (first
       | refine zka ?_
       | refine zkb ?_
       | (apply RKp.op; ((try simp (disch := (first | omega | exact zX | exact zO | fail)) only [lenL lo' hA2 hr, go_sem, Nat.reduceDiv, Nat.reduceMod, Nat.reduceAdd, Nat.reduceSub, Nat.reduceEqDiff, Nat.reduceLeDiff, Nat.reduceLT, Nat.reduceMul, reduceIte, Nat.reducePow, Int.reduceEq]); exact zL); rfl)
       | refine zkc ?_
       | apply RKg.tt
       | apply RKg.ff
       | refine zkd ?_
       | refine zke ?_
       | refine zkf ?_
       | (refine RKg.split (fun h => ?_) (fun h => ?_) <;> (try rw [h]) <;> (replace h := zB h) <;> (try (exfalso; first | exact h | omega)))
       | apply RK.nil
       | apply V.sq
       | apply V.bl
       | apply V.sc
       | apply V.skip
       | apply V.label
       | apply V.ret
       | apply V.exit
       | apply SeqQ.normal
       | apply SeqQ.ret
       | apply SeqQ.exit
       | apply BlockQ.normal
       | apply BlockQ.ret
       | apply BlockQ.here
       | refine zbt ?_
       | apply LoopS.ret
       | apply LoopS.exit
       | apply LoopF.ret
       | apply LoopF.exit
       | apply V.regK
       | refine zvd ?_
       | refine zve ?_
       | (refine zvf (fun h => ?_) (fun h => ?_) <;> (replace h := zB h) <;> (try (exfalso; first | exact h | omega)))
        | (refine zfc Tryz.results25 ?_; (try dsimp only)))
      exact own_rwA ho h0 (by omega)
end
end Go.Am
