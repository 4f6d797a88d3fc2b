/- Rows: the reference's mark, blank rows, what is used; a sign. -/
import Derived.Test.YtoeemmlfcnokiaaGreatRowH
set_option linter.all false
set_option linter.deprecated false
namespace Go.Am
open Go.Proofs
set_option maxRecDepth 8000
set_option maxHeartbeats 4000000
theorem blanks_succ (i : Nat) : cesA (blanks i) ++ [[.v (.int .i32 32), .v (.int .i64 1), .v (.int .i64 0)]] = cesA (blanks (i + 1)) := by
  show _ = cesA (List.replicate (i + 1) blankC)
  rw [List.replicate_succ']; simp [blanks]
section
variable {ys : List (Nat × LRec)} {lo : Nat} {H : AHeap} {A B : AV} {l m : List Ce} {wr wr' : Bool}
theorem mark_run (hA : SlH H 3 A (cesA l)) (hl : l.length < 2 ^ 40) (at_ n : Nat) (hb : at_ + n ≤ l.length) : CallRoE EZ ys lo 67 [rowA A wr, .v (.int .i64 at_), .v (.int .i64 n)] H fun x => ∃ A', x = rowA A' wr ∧ Sl 3 A' (cesA (overL l at_ (blanks n))) := by
  refine WC.pureE rfl fun lo' H' hh => ?_
  have hA' := (hA.two (.inr ⟨[A, .v (.bool wr)], .inl (by simp)⟩) hh)
  have hlo := lo_two hh
  refine zvin Tryz.func67 Tryz.ntmps67 ?_
  repeat' (first
   | refine zka ?_
   | refine zkb ?_
   | (apply RKp.op; ((try simp (disch := (first | omega | exact zX | fail)) only [go_sem, Nat.reduceDiv, Nat.reduceMod, Nat.reduceAdd, Nat.reduceSub, Nat.reduceEqDiff, Nat.reduceLeDiff, Nat.reduceLT, Nat.reduceMul, reduceIte, Nat.reducePow, Int.reduceEq]); exact zL); rfl)
   | refine zkc ?_
   | apply RKg.tt
   | apply RKg.ff
   | refine zkd ?_
   | refine zke ?_
   | refine zkf ?_
   | (refine RKg.split (fun h => ?_) (fun h => ?_) <;> (try rw [h]) <;> (replace h := zB h) <;> (try (exfalso; first | exact h | omega)))
   | apply RK.nil
   | apply V.sq
   | apply V.bl
   | apply V.sc
   | apply V.skip
   | apply V.label
   | apply V.ret
   | apply V.exit
   | apply SeqQ.normal
   | apply SeqQ.ret
   | apply SeqQ.exit
   | apply BlockQ.normal
   | apply BlockQ.ret
   | apply BlockQ.here
   | refine zbt ?_
   | apply LoopS.ret
   | apply LoopS.exit
   | apply LoopF.ret
   | apply LoopF.exit
   | apply V.regK
   | refine zvd ?_
   | refine zve ?_
   | (refine zvf (fun h => ?_) (fun h => ?_) <;> (replace h := zB h) <;> (try (exfalso; first | exact h | omega)))
    | (refine FnQ.retB (resc Tryz.results67) (by simp (disch := (first | omega | exact zX | fail)) only [cellR_op, go_sem, Nat.reduceDiv, Nat.reduceMod, Nat.reduceAdd, Nat.reduceSub, Nat.reduceEqDiff, Nat.reduceLeDiff, Nat.reduceLT, Nat.reduceMul, reduceIte, Nat.reducePow, Int.reduceEq]; rfl) ?_; (try dsimp only)))
  generalize hH0 : (H'.push (rblk A wr)).push zblk = H0
  have hN : H0.next = H'.next + 2 := by rw [← hH0]; rfl
  apply V.lpS [8, 7, 9, 10, 11, 12, 13, 14, 15, 16, 17] (fun k xs H2 => ∃ (i : Nat) (x : AV) (g : _), xs = .v (.int .i64 i) :: x :: g ∧ k = n - i ∧ i ≤ n ∧ Ext H0 H2 ∧ OwS H2 H0.next 61 3 x (cesA (blanks i))) n
  focus (intro xs; simp only [putMany, set2, Nat.reduceAdd, Nat.reduceDiv, Nat.reduceMod, nth_zero, nth_succ, List.set_cons_zero, List.set_cons_succ]; rfl)
  focus (first | rfl | simp only [readMany, nth_zero, nth_succ, Nat.reduceDiv, Nat.reduceMod])
  · exact ⟨0, _, _, rfl, rfl, Nat.zero_le _, Ext.refl _, OwS.nil _ _ _ _⟩
  · rintro k xs H2 ⟨i, x, g, rfl, rfl, hi, hx, ho⟩
    have hx' : Ext H' H2 := (hH0 ▸ (((Ext.refl H').push _).push _) : Ext H' H0).trans hx
    have hn2 := hx.next
    obtain ⟨x', H3, tr3, happ, ho', hnx, hfr⟩ := ho.add1 EZ lo' app_cell (by omega) hx.next (by rw [ces_len, blanks_len]; unfold roomMax; omega) [.v (.int .i32 32), .v (.int .i64 1), .v (.int .i64 0)]
    have g0 : H2.get H'.next = some (rblk A wr) := by rw [hx.get _ (by omega), ← hH0]; simp (disch := (first | omega | exact zX | fail)) only [get_set, get_push, next_push, next_set, if_pos', if_neg', if_true, if_false, reduceIte]
    have g1 : H2.get (H'.next + 1) = some zblk := by rw [hx.get _ (by omega), ← hH0]; simp (disch := (first | omega | exact zX | fail)) only [get_set, get_push, next_push, next_set, if_pos', if_neg', if_true, if_false, reduceIte]
    have hA2 := hA'.ext hx'
    have hB2 := ho.slh
    have hbl : (blanks i).length = i := blanks_len i
    have hbb : at_ + (blanks i).length ≤ l.length := by omega
    repeat' (first
     | refine zka ?_
     | refine zkb ?_
     | (apply RKp.op; ((try simp (disch := (first | omega | exact zX | fail)) only [happ, g0, g1, go_sem, Nat.reduceDiv, Nat.reduceMod, Nat.reduceAdd, Nat.reduceSub, Nat.reduceEqDiff, Nat.reduceLeDiff, Nat.reduceLT, Nat.reduceMul, reduceIte, Nat.reducePow, Int.reduceEq]); exact zL); rfl)
     | (apply RKp.call; (apply refBlank_run <;> (exact zD)); rfl)
     | (apply RKp.callRE; (apply over_run <;> (exact zD)); (intro x; rfl))
     | refine zkc ?_
     | apply RKg.tt
     | apply RKg.ff
     | refine zkd ?_
     | refine zke ?_
     | refine zkf ?_
     | (refine RKg.split (fun h => ?_) (fun h => ?_) <;> (try rw [h]) <;> (replace h := zB h) <;> (try (exfalso; first | exact h | omega)))
     | apply RK.nil
     | apply V.sq
     | apply V.bl
     | apply V.sc
     | apply V.skip
     | apply V.label
     | apply V.ret
     | apply V.exit
     | apply SeqQ.normal
     | apply SeqQ.ret
     | apply SeqQ.exit
     | apply BlockQ.normal
     | apply BlockQ.ret
     | apply BlockQ.here
     | refine zbt ?_
     | apply LoopS.ret
     | apply LoopS.exit
     | apply LoopF.ret
     | apply LoopF.exit
     | apply V.regK
     | refine zvd ?_
     | refine zve ?_
     | (refine zvf (fun h => ?_) (fun h => ?_) <;> (replace h := zB h) <;> (try (exfalso; first | exact h | omega)))
      | (refine FnQ.retB (resc Tryz.results67) (by simp (disch := (first | omega | exact zX | fail)) only [cellR_op, happ, g0, g1, go_sem, Nat.reduceDiv, Nat.reduceMod, Nat.reduceAdd, Nat.reduceSub, Nat.reduceEqDiff, Nat.reduceLeDiff, Nat.reduceLT, Nat.reduceMul, reduceIte, Nat.reducePow, Int.reduceEq]; rfl) ?_; (try dsimp only)))
    · refine LoopS.again (n - (i + 1)) (by rfl) (by omega) ⟨i + 1, _, _, rfl, rfl, by omega, ⟨by omega, fun k hk => by rw [hfr k hk, hx.get k hk]⟩, ?_⟩
      rw [blanks_succ] at ho'
      exact ho'
    · have : i = n := by omega
      subst this
      rintro x tr htr ⟨A', rfl, hA3⟩
      have hfl := flat_Sl hA3
      repeat' (first
       | refine zka ?_
       | refine zkb ?_
       | (apply RKp.op; ((try simp (disch := (first | omega | exact zX | fail)) only [g0, g1, go_sem, Nat.reduceDiv, Nat.reduceMod, Nat.reduceAdd, Nat.reduceSub, Nat.reduceEqDiff, Nat.reduceLeDiff, Nat.reduceLT, Nat.reduceMul, reduceIte, Nat.reducePow, Int.reduceEq]); exact zL); rfl)
       | refine zkc ?_
       | apply RKg.tt
       | apply RKg.ff
       | refine zkd ?_
       | refine zke ?_
       | refine zkf ?_
       | (refine RKg.split (fun h => ?_) (fun h => ?_) <;> (try rw [h]) <;> (replace h := zB h) <;> (try (exfalso; first | exact h | omega)))
       | apply RK.nil
       | apply V.sq
       | apply V.bl
       | apply V.sc
       | apply V.skip
       | apply V.label
       | apply V.ret
       | apply V.exit
       | apply SeqQ.normal
       | apply SeqQ.ret
       | apply SeqQ.exit
       | apply BlockQ.normal
       | apply BlockQ.ret
       | apply BlockQ.here
       | refine zbt ?_
       | apply LoopS.ret
       | apply LoopS.exit
       | apply LoopF.ret
       | apply LoopF.exit
       | apply V.regK
       | refine zvd ?_
       | refine zve ?_
       | (refine zvf (fun h => ?_) (fun h => ?_) <;> (replace h := zB h) <;> (try (exfalso; first | exact h | omega)))
        | (refine FnQ.retB (resc Tryz.results67) (by simp (disch := (first | omega | exact zX | fail)) only [cellR_op, g0, g1, go_sem, Nat.reduceDiv, Nat.reduceMod, Nat.reduceAdd, Nat.reduceSub, Nat.reduceEqDiff, Nat.reduceLeDiff, Nat.reduceLT, Nat.reduceMul, reduceIte, Nat.reducePow, Int.reduceEq]; rfl) ?_; (try dsimp only)))
      refine ⟨A', ?_, hA3⟩
      rw [frzR_agg, List.map_cons, List.map_cons, List.map_nil, frzC_v, frzC_flat _ _ hfl]
theorem BlankRow_run (w : Int) (hw : -9223372036854775808 ≤ w ∧ w ≤ 9223372036854775807) : CallRoE EZ ys lo 29 [.v (.int .i64 w)] H fun x => ∃ A', x = rowA A' false ∧ Sl 3 A' (cesA (blanks (min (max w 0) 300).toNat)) := by
  refine WC.pureE rfl fun lo' H' hh => ?_
  have hlo := lo_two hh
  refine zvin Tryz.func29 Tryz.ntmps29 ?_
  repeat' (first
   | refine zka ?_
   | refine zkb ?_
   | (apply RKp.op; ((try simp (disch := (first | omega | exact zX | fail)) only [go_sem, Nat.reduceDiv, Nat.reduceMod, Nat.reduceAdd, Nat.reduceSub, Nat.reduceEqDiff, Nat.reduceLeDiff, Nat.reduceLT, Nat.reduceMul, reduceIte, Nat.reducePow, Int.reduceEq]); exact zL); rfl)
   | refine zkc ?_
   | apply RKg.tt
   | apply RKg.ff
   | refine zkd ?_
   | refine zke ?_
   | refine zkf ?_
   | (refine RKg.split (fun h => ?_) (fun h => ?_) <;> (try rw [h]) <;> (replace h := zB h) <;> (try (exfalso; first | exact h | omega)))
   | apply RK.nil
   | apply V.sq
   | apply V.bl
   | apply V.sc
   | apply V.skip
   | apply V.label
   | apply V.ret
   | apply V.exit
   | apply SeqQ.normal
   | apply SeqQ.ret
   | apply SeqQ.exit
   | apply BlockQ.normal
   | apply BlockQ.ret
   | apply BlockQ.here
   | refine zbt ?_
   | apply LoopS.ret
   | apply LoopS.exit
   | apply LoopF.ret
   | apply LoopF.exit
   | apply V.regK
    | refine zva ?_
   | refine zvb ?_
   | refine zvc ?_
   | refine zvd ?_
   | refine zve ?_
   | (refine zvf (fun h => ?_) (fun h => ?_) <;> (replace h := zB h) <;> (try (exfalso; first | exact h | omega)))
    | (refine FnQ.retB (resc Tryz.results29) (by simp (disch := (first | omega | exact zX | fail)) only [cellR_op, go_sem, Nat.reduceDiv, Nat.reduceMod, Nat.reduceAdd, Nat.reduceSub, Nat.reduceEqDiff, Nat.reduceLeDiff, Nat.reduceLT, Nat.reduceMul, reduceIte, Nat.reducePow, Int.reduceEq]; rfl) ?_; (try dsimp only)))
  generalize hH0 : (H'.push zblk).push zblk = H0
  have hN : H0.next = H'.next + 2 := by rw [← hH0]; rfl
  apply V.lpS [4, 5, 6, 7, 8, 9, 10, 11, 12, 13, 14, 15, 16, 17] (fun k xs H2 => ∃ (i : Nat) (x : AV) (g : _), xs = .v (.int .i64 i) :: g ∧ k = (min (max w 0) 300).toNat - i ∧ i ≤ (min (max w 0) 300).toNat ∧ H0.next ≤ H2.next ∧ H2.get H'.next = some zblk ∧ H2.get (H'.next + 1) = some (rblk x false) ∧ OwS H2 H0.next 61 3 x (cesA (blanks i))) (min (max w 0) 300).toNat
  focus (intro xs; simp only [putMany, set2, Nat.reduceAdd, Nat.reduceDiv, Nat.reduceMod, nth_zero, nth_succ, List.set_cons_zero, List.set_cons_succ]; rfl)
  focus (first | rfl | simp only [readMany, nth_zero, nth_succ, Nat.reduceDiv, Nat.reduceMod])
  · exact ⟨0, _, _, rfl, rfl, Nat.zero_le _, Nat.le_refl _, by rw [← hH0]; simp (disch := (first | omega | exact zX | fail)) only [get_set, get_push, next_push, next_set, if_pos', if_neg', if_true, if_false, reduceIte], by rw [← hH0]; simp (disch := (first | omega | exact zX | fail)) only [get_set, get_push, next_push, next_set, if_pos', if_neg', if_true, if_false, reduceIte], OwS.nil _ _ _ _⟩
  · rintro k xs H2 ⟨i, x, g, rfl, rfl, hi, hn2, g0, g1, ho⟩
    obtain ⟨x', H3, tr3, happ, ho', hnx, hfr⟩ := ho.add1 EZ lo' app_cell (by omega) hn2 (by rw [ces_len, blanks_len]; unfold roomMax; omega) [.v (.int .i32 32), .v (.int .i64 1), .v (.int .i64 0)]
    have k0 : H3.get H'.next = some zblk := by rw [hfr _ (by omega)]; exact g0
    have k1 : H3.get (H'.next + 1) = some (rblk x false) := by rw [hfr _ (by omega)]; exact g1
    have hc := ho.cells
    have hc' := ho'.cells
    repeat' (first
     | refine zka ?_
     | refine zkb ?_
     | (apply RKp.op; ((try simp (disch := (first | omega | exact zX | fail)) only [happ, g0, g1, k0, k1, hc, hc', go_sem, Nat.reduceDiv, Nat.reduceMod, Nat.reduceAdd, Nat.reduceSub, Nat.reduceEqDiff, Nat.reduceLeDiff, Nat.reduceLT, Nat.reduceMul, reduceIte, Nat.reducePow, Int.reduceEq]); exact zL); rfl)
     | (apply RKp.call; (apply refBlank_run <;> (exact zD)); rfl)
     | refine zkc ?_
     | apply RKg.tt
     | apply RKg.ff
     | refine zkd ?_
     | refine zke ?_
     | refine zkf ?_
     | (refine RKg.split (fun h => ?_) (fun h => ?_) <;> (try rw [h]) <;> (replace h := zB h) <;> (try (exfalso; first | exact h | omega)))
     | apply RK.nil
     | apply V.sq
     | apply V.bl
     | apply V.sc
     | apply V.skip
     | apply V.label
     | apply V.ret
     | apply V.exit
     | apply SeqQ.normal
     | apply SeqQ.ret
     | apply SeqQ.exit
     | apply BlockQ.normal
     | apply BlockQ.ret
     | apply BlockQ.here
     | refine zbt ?_
     | apply LoopS.ret
     | apply LoopS.exit
     | apply LoopF.ret
     | apply LoopF.exit
     | apply V.regK
      | refine zva ?_
     | refine zvb ?_
     | refine zvc ?_
     | refine zvd ?_
     | refine zve ?_
     | (refine zvf (fun h => ?_) (fun h => ?_) <;> (replace h := zB h) <;> (try (exfalso; first | exact h | omega)))
      | (refine FnQ.retB (resc Tryz.results29) (by simp (disch := (first | omega | exact zX | fail)) only [cellR_op, happ, g0, g1, k0, k1, hc, hc', go_sem, Nat.reduceDiv, Nat.reduceMod, Nat.reduceAdd, Nat.reduceSub, Nat.reduceEqDiff, Nat.reduceLeDiff, Nat.reduceLT, Nat.reduceMul, reduceIte, Nat.reducePow, Int.reduceEq]; rfl) ?_; (try dsimp only)))
    · refine LoopS.again ((min (max w 0) 300).toNat - (i + 1)) (by rfl) (by omega) ⟨i + 1, x', _, rfl, rfl, by omega, by (first | omega | (simp only [next_push, next_set, next_empty]; done) | (simp only [next_push, next_set, next_empty]; omega)), by simp (disch := (first | omega | exact zX | fail)) only [get_set, get_push, next_push, next_set, if_pos', if_neg', if_true, if_false, reduceIte, k0, k1], by simp (disch := (first | omega | exact zX | fail)) only [get_set, get_push, next_push, next_set, if_pos', if_neg', if_true, if_false, reduceIte, k0, k1], ?_⟩
      rw [blanks_succ] at ho'
      exact ho'.set (by omega) _
    · have : i = (min (max w 0) 300).toNat := by omega
      subst this
      obtain ⟨y, hy1, hy2⟩ : ∃ y, frzC (H2.set H'.next (rblk x false)) lo' x = y ∧ Sl 3 y (cesA (blanks (min (max w 0) 300).toNat)) := by
        have ho2 := ho.set (m := H'.next) (by omega) (rblk x false)
        rcases ho2 with ⟨h1, rfl | rfl⟩ | ⟨n, e, rfl, h1, h2, h3⟩
        · exact ⟨_, frzC_e0 _ _, .inr ⟨h1, .inl rfl⟩⟩
        · exact ⟨_, frzC_v _ _ _, .inr ⟨h1, .inr rfl⟩⟩
        · exact ⟨_, osC_frz2 (by omega) h3 (by rw [ces_len]), .inl rfl⟩
      refine ⟨y, ?_, hy2⟩
      rw [frzR_agg, List.map_cons, List.map_cons, List.map_nil, frzC_v, hy1]
end
end Go.Am
