/- Parts of the proof: RowI RowJ RowK. -/
import Derived.Test.YtoeemmlfcnokiaaGreatRowH
set_option linter.all false
set_option linter.deprecated false

namespace Go.Am
open Go.Proofs
set_option maxRecDepth 8000
set_option maxHeartbeats 4000000
theorem blanks_succ (i : Nat) : cesA (blanks i) ++ [[.v (.int .i32 32), .v (.int .i64 1), .v (.int .i64 0)]] = cesA (blanks (i + 1)) := by
  show _ = cesA (List.replicate (i + 1) blankC)
  rw [List.replicate_succ']; simp [blanks]
section
variable {ys : List (Nat × LRec)} {lo : Nat} {H : AHeap} {A B : AV} {l m : List Ce} {wr wr' : Bool}
theorem mark_run (hA : SlH H 3 A (cesA l)) (hl : l.length < 2 ^ 40) (at_ n : Nat) (hb : at_ + n ≤ l.length) : CallRoE EZ ys lo 67 [rowA A wr, .v (.int .i64 at_), .v (.int .i64 n)] H fun x => ∃ A', x = rowA A' wr ∧ Sl 3 A' (cesA (overL l at_ (blanks n))) := by
  refine WC.pureE rfl fun lo' H' hh => ?_
  have hA' := (hA.two (.inr ⟨[A, .v (.bool wr)], .inl (by simp)⟩) hh)
  have hlo := lo_two hh
  refine WC.enter Tryz.func67 rfl (Nat.le_of_ble_eq_true rfl) (by simp only [Slots.of, Tryz.ntmps67, Nat.reduceAdd, Nat.reduceDiv, rows8P, row8]; rfl) ?_
  repeat' (first
   | (apply RK.free; rfl)
   | (apply RKy.pl; ((try simp only [go_sem, Nat.reduceDiv, Nat.reduceMod, Nat.reduceAdd, Nat.reduceSub, Nat.reduceEqDiff, Nat.reduceLeDiff, Nat.reduceLT, Nat.reduceMul, reduceIte, Nat.reducePow, Int.reduceEq]); rfl))
   | (apply RKp.op; ((try simp (disch := (first | omega | ((repeat (first | exact Ext.refl _ | assumption | apply Ext.push | (refine Ext.set ?_ (by (first | omega | (simp only [next_push, next_set, next_empty]; done) | (simp only [next_push, next_set, next_empty]; omega))) _))); done) | fail)) only [go_sem, Nat.reduceDiv, Nat.reduceMod, Nat.reduceAdd, Nat.reduceSub, Nat.reduceEqDiff, Nat.reduceLeDiff, Nat.reduceLT, Nat.reduceMul, reduceIte, Nat.reducePow, Int.reduceEq]); (first | rfl | (apply ite_ok; (first | assumption | rfl | omega | (refine ⟨?_, ?_⟩ <;> omega)); rfl))); rfl)
   | (apply RK.guard; rfl; rfl; (simp only [Nat.reduceDiv, Nat.reduceMod, get_nthS, nthS_zero, nthS_succ]; rfl))
   | apply RKg.tt
   | apply RKg.ff
   | (apply RKg.tf; rfl)
   | (apply RKg.ft; rfl)
   | (apply RKg.u; rfl)
   | ((fail_if_success (first | apply RKg.tt | apply RKg.ff | apply RKg.tf | apply RKg.ft | apply RKg.u)); refine RKg.split (fun h => ?_) (fun h => ?_) <;> (try rw [h]) <;> (try simp only [decide_eq_true_eq, decide_eq_false_iff_not, Bool.and_eq_true, Bool.or_eq_true, Bool.and_eq_false_iff, Bool.or_eq_false_iff, Bool.not_eq_true', Bool.not_eq_false', Bool.not_true, Bool.not_false, Classical.not_not, Int.not_lt, Int.not_le, reduceCtorEq, not_true_eq_false, not_false_eq_true, decide_true, decide_false, Int.reduceEq, Int.reduceLT, Int.reduceLE] at h) <;> (try (exfalso; omega)))
   | apply RK.nil
   | apply V.sq
   | apply V.bl
   | apply V.sc
   | apply V.skip
   | apply V.label
   | apply V.ret
   | apply V.exit
   | apply SeqQ.normal
   | apply SeqQ.ret
   | apply SeqQ.exit
   | apply BlockQ.normal
   | apply BlockQ.ret
   | apply BlockQ.here
   | (apply BlockQ.there; decide)
   | apply LoopS.ret
   | apply LoopS.exit
   | apply LoopF.ret
   | apply LoopF.exit
   | apply V.regK
   | (refine V.condT rfl ?_)
   | (refine V.condF rfl ?_)
   | (refine V.cond rfl (fun h => ?_) (fun h => ?_) <;> (try simp only [decide_eq_true_eq, decide_eq_false_iff_not, Bool.and_eq_true, Bool.or_eq_true, Bool.and_eq_false_iff, Bool.or_eq_false_iff, Bool.not_eq_true', Bool.not_eq_false', Bool.not_true, Bool.not_false, Classical.not_not, Int.not_lt, Int.not_le, reduceCtorEq, not_true_eq_false, not_false_eq_true, decide_true, decide_false, Int.reduceEq, Int.reduceLT, Int.reduceLE] at h) <;> (try (exfalso; omega)))
    | (refine FnQ.retB (resc Tryz.results67) (by simp (disch := (first | omega | ((repeat (first | exact Ext.refl _ | assumption | apply Ext.push | (refine Ext.set ?_ (by (first | omega | (simp only [next_push, next_set, next_empty]; done) | (simp only [next_push, next_set, next_empty]; omega))) _))); done) | fail)) only [cellR_op, go_sem, Nat.reduceDiv, Nat.reduceMod, Nat.reduceAdd, Nat.reduceSub, Nat.reduceEqDiff, Nat.reduceLeDiff, Nat.reduceLT, Nat.reduceMul, reduceIte, Nat.reducePow, Int.reduceEq]; rfl) ?_; (try dsimp only)))
  generalize hH0 : (H'.push (rblk A wr)).push zblk = H0
  have hN : H0.next = H'.next + 2 := by rw [← hH0]; rfl
  apply V.lpS [8, 7, 9, 10, 11, 12, 13, 14, 15, 16, 17] (fun k xs H2 => ∃ (i : Nat) (x : AV) (g : _), xs = .v (.int .i64 i) :: x :: g ∧ k = n - i ∧ i ≤ n ∧ Ext H0 H2 ∧ OwS H2 H0.next 61 3 x (cesA (blanks i))) n
  focus (intro xs; simp only [putMany, set2, Nat.reduceAdd, Nat.reduceDiv, Nat.reduceMod, nth_zero, nth_succ, List.set_cons_zero, List.set_cons_succ]; rfl)
  focus (first | rfl | simp only [readMany, nth_zero, nth_succ, Nat.reduceDiv, Nat.reduceMod])
  · exact ⟨0, _, _, rfl, rfl, Nat.zero_le _, Ext.refl _, OwS.nil _ _ _ _⟩
  · rintro k xs H2 ⟨i, x, g, rfl, rfl, hi, hx, ho⟩
    have hx' : Ext H' H2 := (hH0 ▸ (((Ext.refl H').push _).push _) : Ext H' H0).trans hx
    have hn2 := hx.next
    obtain ⟨x', H3, tr3, happ, ho', hnx, hfr⟩ := ho.add1 EZ lo' app_cell (by omega) hx.next (by rw [ces_len, blanks_len]; unfold roomMax; omega) [.v (.int .i32 32), .v (.int .i64 1), .v (.int .i64 0)]
    have g0 : H2.get H'.next = some (rblk A wr) := by rw [hx.get _ (by omega), ← hH0]; simp (disch := (first | omega | ((repeat (first | exact Ext.refl _ | assumption | apply Ext.push | (refine Ext.set ?_ (by (first | omega | (simp only [next_push, next_set, next_empty]; done) | (simp only [next_push, next_set, next_empty]; omega))) _))); done) | fail)) only [get_set, get_push, next_push, next_set, if_pos', if_neg', if_true, if_false, reduceIte]
    have g1 : H2.get (H'.next + 1) = some zblk := by rw [hx.get _ (by omega), ← hH0]; simp (disch := (first | omega | ((repeat (first | exact Ext.refl _ | assumption | apply Ext.push | (refine Ext.set ?_ (by (first | omega | (simp only [next_push, next_set, next_empty]; done) | (simp only [next_push, next_set, next_empty]; omega))) _))); done) | fail)) only [get_set, get_push, next_push, next_set, if_pos', if_neg', if_true, if_false, reduceIte]
    have hA2 := hA'.ext hx'
    have hB2 := ho.slh
    have hbl : (blanks i).length = i := blanks_len i
    have hbb : at_ + (blanks i).length ≤ l.length := by omega
    repeat' (first
     | (apply RK.free; rfl)
     | (apply RKy.pl; ((try simp only [go_sem, Nat.reduceDiv, Nat.reduceMod, Nat.reduceAdd, Nat.reduceSub, Nat.reduceEqDiff, Nat.reduceLeDiff, Nat.reduceLT, Nat.reduceMul, reduceIte, Nat.reducePow, Int.reduceEq]); rfl))
     | (apply RKp.op; ((try simp (disch := (first | omega | ((repeat (first | exact Ext.refl _ | assumption | apply Ext.push | (refine Ext.set ?_ (by (first | omega | (simp only [next_push, next_set, next_empty]; done) | (simp only [next_push, next_set, next_empty]; omega))) _))); done) | fail)) only [happ, g0, g1, go_sem, Nat.reduceDiv, Nat.reduceMod, Nat.reduceAdd, Nat.reduceSub, Nat.reduceEqDiff, Nat.reduceLeDiff, Nat.reduceLT, Nat.reduceMul, reduceIte, Nat.reducePow, Int.reduceEq]); (first | rfl | (apply ite_ok; (first | assumption | rfl | omega | (refine ⟨?_, ?_⟩ <;> omega)); rfl))); rfl)
     | (apply RKp.call; ((first | apply refBlank_run | apply over_run) <;> (first | assumption | rfl | omega | (refine ⟨?_, ?_⟩ <;> omega))); rfl)
     | (apply RKp.callR; ((first | apply refBlank_run | apply over_run) <;> (first | assumption | rfl | omega | (refine ⟨?_, ?_⟩ <;> omega))); rfl; intro tr htr)
     | (apply RKp.callO; ((first | apply refBlank_run | apply over_run) <;> (first | assumption | rfl | omega | (refine ⟨?_, ?_⟩ <;> omega))); rfl; intro tr)
     | (apply RKp.callRE; ((first | apply refBlank_run | apply over_run) <;> (first | assumption | rfl | omega | (refine ⟨?_, ?_⟩ <;> omega))); (intro x; rfl))
     | (apply RKp.callE; ((first | apply refBlank_run | apply over_run) <;> (first | assumption | rfl | omega | (refine ⟨?_, ?_⟩ <;> omega))); (intro x; rfl))
     | (apply RK.guard; rfl; rfl; (simp only [Nat.reduceDiv, Nat.reduceMod, get_nthS, nthS_zero, nthS_succ]; rfl))
     | apply RKg.tt
     | apply RKg.ff
     | (apply RKg.tf; rfl)
     | (apply RKg.ft; rfl)
     | (apply RKg.u; rfl)
     | ((fail_if_success (first | apply RKg.tt | apply RKg.ff | apply RKg.tf | apply RKg.ft | apply RKg.u)); refine RKg.split (fun h => ?_) (fun h => ?_) <;> (try rw [h]) <;> (try simp only [decide_eq_true_eq, decide_eq_false_iff_not, Bool.and_eq_true, Bool.or_eq_true, Bool.and_eq_false_iff, Bool.or_eq_false_iff, Bool.not_eq_true', Bool.not_eq_false', Bool.not_true, Bool.not_false, Classical.not_not, Int.not_lt, Int.not_le, reduceCtorEq, not_true_eq_false, not_false_eq_true, decide_true, decide_false, Int.reduceEq, Int.reduceLT, Int.reduceLE] at h) <;> (try (exfalso; omega)))
     | apply RK.nil
     | apply V.sq
     | apply V.bl
     | apply V.sc
     | apply V.skip
     | apply V.label
     | apply V.ret
     | apply V.exit
     | apply SeqQ.normal
     | apply SeqQ.ret
     | apply SeqQ.exit
     | apply BlockQ.normal
     | apply BlockQ.ret
     | apply BlockQ.here
     | (apply BlockQ.there; decide)
     | apply LoopS.ret
     | apply LoopS.exit
     | apply LoopF.ret
     | apply LoopF.exit
     | apply V.regK
     | (refine V.condT rfl ?_)
     | (refine V.condF rfl ?_)
     | (refine V.cond rfl (fun h => ?_) (fun h => ?_) <;> (try simp only [decide_eq_true_eq, decide_eq_false_iff_not, Bool.and_eq_true, Bool.or_eq_true, Bool.and_eq_false_iff, Bool.or_eq_false_iff, Bool.not_eq_true', Bool.not_eq_false', Bool.not_true, Bool.not_false, Classical.not_not, Int.not_lt, Int.not_le, reduceCtorEq, not_true_eq_false, not_false_eq_true, decide_true, decide_false, Int.reduceEq, Int.reduceLT, Int.reduceLE] at h) <;> (try (exfalso; omega)))
      | (refine FnQ.retB (resc Tryz.results67) (by simp (disch := (first | omega | ((repeat (first | exact Ext.refl _ | assumption | apply Ext.push | (refine Ext.set ?_ (by (first | omega | (simp only [next_push, next_set, next_empty]; done) | (simp only [next_push, next_set, next_empty]; omega))) _))); done) | fail)) only [cellR_op, happ, g0, g1, go_sem, Nat.reduceDiv, Nat.reduceMod, Nat.reduceAdd, Nat.reduceSub, Nat.reduceEqDiff, Nat.reduceLeDiff, Nat.reduceLT, Nat.reduceMul, reduceIte, Nat.reducePow, Int.reduceEq]; rfl) ?_; (try dsimp only)))
    · refine LoopS.again (n - (i + 1)) (by rfl) (by omega) ⟨i + 1, _, _, rfl, rfl, by omega, ⟨by omega, fun k hk => by rw [hfr k hk, hx.get k hk]⟩, ?_⟩
      rw [blanks_succ] at ho'
      exact ho'
    · have : i = n := by omega
      subst this
      rintro x tr htr ⟨A', rfl, hA3⟩
      have hfl := flat_Sl hA3
      repeat' (first
       | (apply RK.free; rfl)
       | (apply RKy.pl; ((try simp only [go_sem, Nat.reduceDiv, Nat.reduceMod, Nat.reduceAdd, Nat.reduceSub, Nat.reduceEqDiff, Nat.reduceLeDiff, Nat.reduceLT, Nat.reduceMul, reduceIte, Nat.reducePow, Int.reduceEq]); rfl))
       | (apply RKp.op; ((try simp (disch := (first | omega | ((repeat (first | exact Ext.refl _ | assumption | apply Ext.push | (refine Ext.set ?_ (by (first | omega | (simp only [next_push, next_set, next_empty]; done) | (simp only [next_push, next_set, next_empty]; omega))) _))); done) | fail)) only [g0, g1, go_sem, Nat.reduceDiv, Nat.reduceMod, Nat.reduceAdd, Nat.reduceSub, Nat.reduceEqDiff, Nat.reduceLeDiff, Nat.reduceLT, Nat.reduceMul, reduceIte, Nat.reducePow, Int.reduceEq]); (first | rfl | (apply ite_ok; (first | assumption | rfl | omega | (refine ⟨?_, ?_⟩ <;> omega)); rfl))); rfl)
       | (apply RK.guard; rfl; rfl; (simp only [Nat.reduceDiv, Nat.reduceMod, get_nthS, nthS_zero, nthS_succ]; rfl))
       | apply RKg.tt
       | apply RKg.ff
       | (apply RKg.tf; rfl)
       | (apply RKg.ft; rfl)
       | (apply RKg.u; rfl)
       | ((fail_if_success (first | apply RKg.tt | apply RKg.ff | apply RKg.tf | apply RKg.ft | apply RKg.u)); refine RKg.split (fun h => ?_) (fun h => ?_) <;> (try rw [h]) <;> (try simp only [decide_eq_true_eq, decide_eq_false_iff_not, Bool.and_eq_true, Bool.or_eq_true, Bool.and_eq_false_iff, Bool.or_eq_false_iff, Bool.not_eq_true', Bool.not_eq_false', Bool.not_true, Bool.not_false, Classical.not_not, Int.not_lt, Int.not_le, reduceCtorEq, not_true_eq_false, not_false_eq_true, decide_true, decide_false, Int.reduceEq, Int.reduceLT, Int.reduceLE] at h) <;> (try (exfalso; omega)))
       | apply RK.nil
       | apply V.sq
       | apply V.bl
       | apply V.sc
       | apply V.skip
       | apply V.label
       | apply V.ret
       | apply V.exit
       | apply SeqQ.normal
       | apply SeqQ.ret
       | apply SeqQ.exit
       | apply BlockQ.normal
       | apply BlockQ.ret
       | apply BlockQ.here
       | (apply BlockQ.there; decide)
       | apply LoopS.ret
       | apply LoopS.exit
       | apply LoopF.ret
       | apply LoopF.exit
       | apply V.regK
       | (refine V.condT rfl ?_)
       | (refine V.condF rfl ?_)
       | (refine V.cond rfl (fun h => ?_) (fun h => ?_) <;> (try simp only [decide_eq_true_eq, decide_eq_false_iff_not, Bool.and_eq_true, Bool.or_eq_true, Bool.and_eq_false_iff, Bool.or_eq_false_iff, Bool.not_eq_true', Bool.not_eq_false', Bool.not_true, Bool.not_false, Classical.not_not, Int.not_lt, Int.not_le, reduceCtorEq, not_true_eq_false, not_false_eq_true, decide_true, decide_false, Int.reduceEq, Int.reduceLT, Int.reduceLE] at h) <;> (try (exfalso; omega)))
        | (refine FnQ.retB (resc Tryz.results67) (by simp (disch := (first | omega | ((repeat (first | exact Ext.refl _ | assumption | apply Ext.push | (refine Ext.set ?_ (by (first | omega | (simp only [next_push, next_set, next_empty]; done) | (simp only [next_push, next_set, next_empty]; omega))) _))); done) | fail)) only [cellR_op, g0, g1, go_sem, Nat.reduceDiv, Nat.reduceMod, Nat.reduceAdd, Nat.reduceSub, Nat.reduceEqDiff, Nat.reduceLeDiff, Nat.reduceLT, Nat.reduceMul, reduceIte, Nat.reducePow, Int.reduceEq]; rfl) ?_; (try dsimp only)))
      refine ⟨A', ?_, hA3⟩
      rw [frzR_agg, List.map_cons, List.map_cons, List.map_nil, frzC_v, frzC_flat _ _ hfl]
theorem BlankRow_run (w : Int) (hw : -9223372036854775808 ≤ w ∧ w ≤ 9223372036854775807) : CallRoE EZ ys lo 29 [.v (.int .i64 w)] H fun x => ∃ A', x = rowA A' false ∧ Sl 3 A' (cesA (blanks (min (max w 0) 300).toNat)) := by
  refine WC.pureE rfl fun lo' H' hh => ?_
  have hlo := lo_two hh
  refine WC.enter Tryz.func29 rfl (Nat.le_of_ble_eq_true rfl) (by simp only [Slots.of, Tryz.ntmps29, Nat.reduceAdd, Nat.reduceDiv, rows8P, row8]; rfl) ?_
  repeat' (first
   | (apply RK.free; rfl)
   | (apply RKy.pl; ((try simp only [go_sem, Nat.reduceDiv, Nat.reduceMod, Nat.reduceAdd, Nat.reduceSub, Nat.reduceEqDiff, Nat.reduceLeDiff, Nat.reduceLT, Nat.reduceMul, reduceIte, Nat.reducePow, Int.reduceEq]); rfl))
   | (apply RKp.op; ((try simp (disch := (first | omega | ((repeat (first | exact Ext.refl _ | assumption | apply Ext.push | (refine Ext.set ?_ (by (first | omega | (simp only [next_push, next_set, next_empty]; done) | (simp only [next_push, next_set, next_empty]; omega))) _))); done) | fail)) only [go_sem, Nat.reduceDiv, Nat.reduceMod, Nat.reduceAdd, Nat.reduceSub, Nat.reduceEqDiff, Nat.reduceLeDiff, Nat.reduceLT, Nat.reduceMul, reduceIte, Nat.reducePow, Int.reduceEq]); (first | rfl | (apply ite_ok; (first | assumption | rfl | omega | (refine ⟨?_, ?_⟩ <;> omega)); rfl))); rfl)
   | (apply RK.guard; rfl; rfl; (simp only [Nat.reduceDiv, Nat.reduceMod, get_nthS, nthS_zero, nthS_succ]; rfl))
   | apply RKg.tt
   | apply RKg.ff
   | (apply RKg.tf; rfl)
   | (apply RKg.ft; rfl)
   | (apply RKg.u; rfl)
   | ((fail_if_success (first | apply RKg.tt | apply RKg.ff | apply RKg.tf | apply RKg.ft | apply RKg.u)); refine RKg.split (fun h => ?_) (fun h => ?_) <;> (try rw [h]) <;> (try simp only [decide_eq_true_eq, decide_eq_false_iff_not, Bool.and_eq_true, Bool.or_eq_true, Bool.and_eq_false_iff, Bool.or_eq_false_iff, Bool.not_eq_true', Bool.not_eq_false', Bool.not_true, Bool.not_false, Classical.not_not, Int.not_lt, Int.not_le, reduceCtorEq, not_true_eq_false, not_false_eq_true, decide_true, decide_false, Int.reduceEq, Int.reduceLT, Int.reduceLE] at h) <;> (try (exfalso; omega)))
   | apply RK.nil
   | apply V.sq
   | apply V.bl
   | apply V.sc
   | apply V.skip
   | apply V.label
   | apply V.ret
   | apply V.exit
   | apply SeqQ.normal
   | apply SeqQ.ret
   | apply SeqQ.exit
   | apply BlockQ.normal
   | apply BlockQ.ret
   | apply BlockQ.here
   | (apply BlockQ.there; decide)
   | apply LoopS.ret
   | apply LoopS.exit
   | apply LoopF.ret
   | apply LoopF.exit
   | apply V.regK
    | (refine V.regdK (by kernel_rfl) ?_)
   | (refine DrawK.mk ?_ ?_; (focus (simp only [List.reverse_cons, List.reverse_nil, List.nil_append, List.cons_append]; decide +kernel)))
   | (apply DrawK.k3; (simp only [List.reverse_cons, List.reverse_nil, List.nil_append, List.cons_append]; rfl); (focus ((repeat (first | exact Kinds3.nil | apply Kinds3.z | (apply Kinds3.ro; (focus ((first | exact bits0 | (refine bits1 ?_; (first | omega | (simp only [next_push, next_set, next_empty]; done) | (simp only [next_push, next_set, next_empty]; omega))) | (refine rd_lt hA' _ ?_; (first | omega | (simp only [next_push, next_set, next_empty]; done) | (simp only [next_push, next_set, next_empty]; omega))) | (refine rd_lt hB' _ ?_; (first | omega | (simp only [next_push, next_set, next_empty]; done) | (simp only [next_push, next_set, next_empty]; omega))) | (refine rd_lt hC' _ ?_; (first | omega | (simp only [next_push, next_set, next_empty]; done) | (simp only [next_push, next_set, next_empty]; omega)))); done))) | (apply Kinds3.rd; (focus ((first | exact bits0 | (refine bits1 ?_; (first | omega | (simp only [next_push, next_set, next_empty]; done) | (simp only [next_push, next_set, next_empty]; omega))) | (refine rd_lt hA' _ ?_; (first | omega | (simp only [next_push, next_set, next_empty]; done) | (simp only [next_push, next_set, next_empty]; omega))) | (refine rd_lt hB' _ ?_; (first | omega | (simp only [next_push, next_set, next_empty]; done) | (simp only [next_push, next_set, next_empty]; omega))) | (refine rd_lt hC' _ ?_; (first | omega | (simp only [next_push, next_set, next_empty]; done) | (simp only [next_push, next_set, next_empty]; omega)))); done))) | (apply Kinds3.nw 0; (focus (first | omega | (simp only [next_push, next_set, next_empty]; done) | (simp only [next_push, next_set, next_empty]; omega))); (focus ((first | exact bits0 | (refine bits1 ?_; (first | omega | (simp only [next_push, next_set, next_empty]; done) | (simp only [next_push, next_set, next_empty]; omega))) | (refine rd_lt hA' _ ?_; (first | omega | (simp only [next_push, next_set, next_empty]; done) | (simp only [next_push, next_set, next_empty]; omega))) | (refine rd_lt hB' _ ?_; (first | omega | (simp only [next_push, next_set, next_empty]; done) | (simp only [next_push, next_set, next_empty]; omega))) | (refine rd_lt hC' _ ?_; (first | omega | (simp only [next_push, next_set, next_empty]; done) | (simp only [next_push, next_set, next_empty]; omega)))); done))) | (apply Kinds3.nw 1; (focus (first | omega | (simp only [next_push, next_set, next_empty]; done) | (simp only [next_push, next_set, next_empty]; omega))); (focus ((first | exact bits0 | (refine bits1 ?_; (first | omega | (simp only [next_push, next_set, next_empty]; done) | (simp only [next_push, next_set, next_empty]; omega))) | (refine rd_lt hA' _ ?_; (first | omega | (simp only [next_push, next_set, next_empty]; done) | (simp only [next_push, next_set, next_empty]; omega))) | (refine rd_lt hB' _ ?_; (first | omega | (simp only [next_push, next_set, next_empty]; done) | (simp only [next_push, next_set, next_empty]; omega))) | (refine rd_lt hC' _ ?_; (first | omega | (simp only [next_push, next_set, next_empty]; done) | (simp only [next_push, next_set, next_empty]; omega)))); done))) | (apply Kinds3.nw 2; (focus (first | omega | (simp only [next_push, next_set, next_empty]; done) | (simp only [next_push, next_set, next_empty]; omega))); (focus ((first | exact bits0 | (refine bits1 ?_; (first | omega | (simp only [next_push, next_set, next_empty]; done) | (simp only [next_push, next_set, next_empty]; omega))) | (refine rd_lt hA' _ ?_; (first | omega | (simp only [next_push, next_set, next_empty]; done) | (simp only [next_push, next_set, next_empty]; omega))) | (refine rd_lt hB' _ ?_; (first | omega | (simp only [next_push, next_set, next_empty]; done) | (simp only [next_push, next_set, next_empty]; omega))) | (refine rd_lt hC' _ ?_; (first | omega | (simp only [next_push, next_set, next_empty]; done) | (simp only [next_push, next_set, next_empty]; omega)))); done))) | (apply Kinds3.ra; (focus (first | exact RoT.zero | exact RoT.rd | exact RoT.all | exact RoT.rdTr _ | assumption))) | apply Kinds3.any)); done)); decide +kernel)
   | (refine V.condT rfl ?_)
   | (refine V.condF rfl ?_)
   | (refine V.cond rfl (fun h => ?_) (fun h => ?_) <;> (try simp only [decide_eq_true_eq, decide_eq_false_iff_not, Bool.and_eq_true, Bool.or_eq_true, Bool.and_eq_false_iff, Bool.or_eq_false_iff, Bool.not_eq_true', Bool.not_eq_false', Bool.not_true, Bool.not_false, Classical.not_not, Int.not_lt, Int.not_le, reduceCtorEq, not_true_eq_false, not_false_eq_true, decide_true, decide_false, Int.reduceEq, Int.reduceLT, Int.reduceLE] at h) <;> (try (exfalso; omega)))
    | (refine FnQ.retB (resc Tryz.results29) (by simp (disch := (first | omega | ((repeat (first | exact Ext.refl _ | assumption | apply Ext.push | (refine Ext.set ?_ (by (first | omega | (simp only [next_push, next_set, next_empty]; done) | (simp only [next_push, next_set, next_empty]; omega))) _))); done) | fail)) only [cellR_op, go_sem, Nat.reduceDiv, Nat.reduceMod, Nat.reduceAdd, Nat.reduceSub, Nat.reduceEqDiff, Nat.reduceLeDiff, Nat.reduceLT, Nat.reduceMul, reduceIte, Nat.reducePow, Int.reduceEq]; rfl) ?_; (try dsimp only)))
  generalize hH0 : (H'.push zblk).push zblk = H0
  have hN : H0.next = H'.next + 2 := by rw [← hH0]; rfl
  apply V.lpS [4, 5, 6, 7, 8, 9, 10, 11, 12, 13, 14, 15, 16, 17] (fun k xs H2 => ∃ (i : Nat) (x : AV) (g : _), xs = .v (.int .i64 i) :: g ∧ k = (min (max w 0) 300).toNat - i ∧ i ≤ (min (max w 0) 300).toNat ∧ H0.next ≤ H2.next ∧ H2.get H'.next = some zblk ∧ H2.get (H'.next + 1) = some (rblk x false) ∧ OwS H2 H0.next 61 3 x (cesA (blanks i))) (min (max w 0) 300).toNat
  focus (intro xs; simp only [putMany, set2, Nat.reduceAdd, Nat.reduceDiv, Nat.reduceMod, nth_zero, nth_succ, List.set_cons_zero, List.set_cons_succ]; rfl)
  focus (first | rfl | simp only [readMany, nth_zero, nth_succ, Nat.reduceDiv, Nat.reduceMod])
  · exact ⟨0, _, _, rfl, rfl, Nat.zero_le _, Nat.le_refl _, by rw [← hH0]; simp (disch := (first | omega | ((repeat (first | exact Ext.refl _ | assumption | apply Ext.push | (refine Ext.set ?_ (by (first | omega | (simp only [next_push, next_set, next_empty]; done) | (simp only [next_push, next_set, next_empty]; omega))) _))); done) | fail)) only [get_set, get_push, next_push, next_set, if_pos', if_neg', if_true, if_false, reduceIte], by rw [← hH0]; simp (disch := (first | omega | ((repeat (first | exact Ext.refl _ | assumption | apply Ext.push | (refine Ext.set ?_ (by (first | omega | (simp only [next_push, next_set, next_empty]; done) | (simp only [next_push, next_set, next_empty]; omega))) _))); done) | fail)) only [get_set, get_push, next_push, next_set, if_pos', if_neg', if_true, if_false, reduceIte], OwS.nil _ _ _ _⟩
  · rintro k xs H2 ⟨i, x, g, rfl, rfl, hi, hn2, g0, g1, ho⟩
    obtain ⟨x', H3, tr3, happ, ho', hnx, hfr⟩ := ho.add1 EZ lo' app_cell (by omega) hn2 (by rw [ces_len, blanks_len]; unfold roomMax; omega) [.v (.int .i32 32), .v (.int .i64 1), .v (.int .i64 0)]
    have k0 : H3.get H'.next = some zblk := by rw [hfr _ (by omega)]; exact g0
    have k1 : H3.get (H'.next + 1) = some (rblk x false) := by rw [hfr _ (by omega)]; exact g1
    have hc := ho.cells
    have hc' := ho'.cells
    repeat' (first
     | (apply RK.free; rfl)
     | (apply RKy.pl; ((try simp only [go_sem, Nat.reduceDiv, Nat.reduceMod, Nat.reduceAdd, Nat.reduceSub, Nat.reduceEqDiff, Nat.reduceLeDiff, Nat.reduceLT, Nat.reduceMul, reduceIte, Nat.reducePow, Int.reduceEq]); rfl))
     | (apply RKp.op; ((try simp (disch := (first | omega | ((repeat (first | exact Ext.refl _ | assumption | apply Ext.push | (refine Ext.set ?_ (by (first | omega | (simp only [next_push, next_set, next_empty]; done) | (simp only [next_push, next_set, next_empty]; omega))) _))); done) | fail)) only [happ, g0, g1, k0, k1, hc, hc', go_sem, Nat.reduceDiv, Nat.reduceMod, Nat.reduceAdd, Nat.reduceSub, Nat.reduceEqDiff, Nat.reduceLeDiff, Nat.reduceLT, Nat.reduceMul, reduceIte, Nat.reducePow, Int.reduceEq]); (first | rfl | (apply ite_ok; (first | assumption | rfl | omega | (refine ⟨?_, ?_⟩ <;> omega)); rfl))); rfl)
     | (apply RKp.call; (apply refBlank_run <;> (first | assumption | rfl | omega | (refine ⟨?_, ?_⟩ <;> omega))); rfl)
     | (apply RKp.callR; (apply refBlank_run <;> (first | assumption | rfl | omega | (refine ⟨?_, ?_⟩ <;> omega))); rfl; intro tr htr)
     | (apply RKp.callO; (apply refBlank_run <;> (first | assumption | rfl | omega | (refine ⟨?_, ?_⟩ <;> omega))); rfl; intro tr)
     | (apply RKp.callRE; (apply refBlank_run <;> (first | assumption | rfl | omega | (refine ⟨?_, ?_⟩ <;> omega))); (intro x; rfl))
     | (apply RKp.callE; (apply refBlank_run <;> (first | assumption | rfl | omega | (refine ⟨?_, ?_⟩ <;> omega))); (intro x; rfl))
     | (apply RK.guard; rfl; rfl; (simp only [Nat.reduceDiv, Nat.reduceMod, get_nthS, nthS_zero, nthS_succ]; rfl))
     | apply RKg.tt
     | apply RKg.ff
     | (apply RKg.tf; rfl)
     | (apply RKg.ft; rfl)
     | (apply RKg.u; rfl)
     | ((fail_if_success (first | apply RKg.tt | apply RKg.ff | apply RKg.tf | apply RKg.ft | apply RKg.u)); refine RKg.split (fun h => ?_) (fun h => ?_) <;> (try rw [h]) <;> (try simp only [decide_eq_true_eq, decide_eq_false_iff_not, Bool.and_eq_true, Bool.or_eq_true, Bool.and_eq_false_iff, Bool.or_eq_false_iff, Bool.not_eq_true', Bool.not_eq_false', Bool.not_true, Bool.not_false, Classical.not_not, Int.not_lt, Int.not_le, reduceCtorEq, not_true_eq_false, not_false_eq_true, decide_true, decide_false, Int.reduceEq, Int.reduceLT, Int.reduceLE] at h) <;> (try (exfalso; omega)))
     | apply RK.nil
     | apply V.sq
     | apply V.bl
     | apply V.sc
     | apply V.skip
     | apply V.label
     | apply V.ret
     | apply V.exit
     | apply SeqQ.normal
     | apply SeqQ.ret
     | apply SeqQ.exit
     | apply BlockQ.normal
     | apply BlockQ.ret
     | apply BlockQ.here
     | (apply BlockQ.there; decide)
     | apply LoopS.ret
     | apply LoopS.exit
     | apply LoopF.ret
     | apply LoopF.exit
     | apply V.regK
      | (refine V.regdK (by kernel_rfl) ?_)
     | (refine DrawK.mk ?_ ?_; (focus (simp only [List.reverse_cons, List.reverse_nil, List.nil_append, List.cons_append]; decide +kernel)))
     | (apply DrawK.k3; (simp only [List.reverse_cons, List.reverse_nil, List.nil_append, List.cons_append]; rfl); (focus ((repeat (first | exact Kinds3.nil | apply Kinds3.z | (apply Kinds3.ro; (focus ((first | exact bits0 | (refine bits1 ?_; (first | omega | (simp only [next_push, next_set, next_empty]; done) | (simp only [next_push, next_set, next_empty]; omega))) | (refine rd_lt hA' _ ?_; (first | omega | (simp only [next_push, next_set, next_empty]; done) | (simp only [next_push, next_set, next_empty]; omega))) | (refine rd_lt hB' _ ?_; (first | omega | (simp only [next_push, next_set, next_empty]; done) | (simp only [next_push, next_set, next_empty]; omega))) | (refine rd_lt hC' _ ?_; (first | omega | (simp only [next_push, next_set, next_empty]; done) | (simp only [next_push, next_set, next_empty]; omega)))); done))) | (apply Kinds3.rd; (focus ((first | exact bits0 | (refine bits1 ?_; (first | omega | (simp only [next_push, next_set, next_empty]; done) | (simp only [next_push, next_set, next_empty]; omega))) | (refine rd_lt hA' _ ?_; (first | omega | (simp only [next_push, next_set, next_empty]; done) | (simp only [next_push, next_set, next_empty]; omega))) | (refine rd_lt hB' _ ?_; (first | omega | (simp only [next_push, next_set, next_empty]; done) | (simp only [next_push, next_set, next_empty]; omega))) | (refine rd_lt hC' _ ?_; (first | omega | (simp only [next_push, next_set, next_empty]; done) | (simp only [next_push, next_set, next_empty]; omega)))); done))) | (apply Kinds3.nw 0; (focus (first | omega | (simp only [next_push, next_set, next_empty]; done) | (simp only [next_push, next_set, next_empty]; omega))); (focus ((first | exact bits0 | (refine bits1 ?_; (first | omega | (simp only [next_push, next_set, next_empty]; done) | (simp only [next_push, next_set, next_empty]; omega))) | (refine rd_lt hA' _ ?_; (first | omega | (simp only [next_push, next_set, next_empty]; done) | (simp only [next_push, next_set, next_empty]; omega))) | (refine rd_lt hB' _ ?_; (first | omega | (simp only [next_push, next_set, next_empty]; done) | (simp only [next_push, next_set, next_empty]; omega))) | (refine rd_lt hC' _ ?_; (first | omega | (simp only [next_push, next_set, next_empty]; done) | (simp only [next_push, next_set, next_empty]; omega)))); done))) | (apply Kinds3.nw 1; (focus (first | omega | (simp only [next_push, next_set, next_empty]; done) | (simp only [next_push, next_set, next_empty]; omega))); (focus ((first | exact bits0 | (refine bits1 ?_; (first | omega | (simp only [next_push, next_set, next_empty]; done) | (simp only [next_push, next_set, next_empty]; omega))) | (refine rd_lt hA' _ ?_; (first | omega | (simp only [next_push, next_set, next_empty]; done) | (simp only [next_push, next_set, next_empty]; omega))) | (refine rd_lt hB' _ ?_; (first | omega | (simp only [next_push, next_set, next_empty]; done) | (simp only [next_push, next_set, next_empty]; omega))) | (refine rd_lt hC' _ ?_; (first | omega | (simp only [next_push, next_set, next_empty]; done) | (simp only [next_push, next_set, next_empty]; omega)))); done))) | (apply Kinds3.nw 2; (focus (first | omega | (simp only [next_push, next_set, next_empty]; done) | (simp only [next_push, next_set, next_empty]; omega))); (focus ((first | exact bits0 | (refine bits1 ?_; (first | omega | (simp only [next_push, next_set, next_empty]; done) | (simp only [next_push, next_set, next_empty]; omega))) | (refine rd_lt hA' _ ?_; (first | omega | (simp only [next_push, next_set, next_empty]; done) | (simp only [next_push, next_set, next_empty]; omega))) | (refine rd_lt hB' _ ?_; (first | omega | (simp only [next_push, next_set, next_empty]; done) | (simp only [next_push, next_set, next_empty]; omega))) | (refine rd_lt hC' _ ?_; (first | omega | (simp only [next_push, next_set, next_empty]; done) | (simp only [next_push, next_set, next_empty]; omega)))); done))) | (apply Kinds3.ra; (focus (first | exact RoT.zero | exact RoT.rd | exact RoT.all | exact RoT.rdTr _ | assumption))) | apply Kinds3.any)); done)); decide +kernel)
     | (refine V.condT rfl ?_)
     | (refine V.condF rfl ?_)
     | (refine V.cond rfl (fun h => ?_) (fun h => ?_) <;> (try simp only [decide_eq_true_eq, decide_eq_false_iff_not, Bool.and_eq_true, Bool.or_eq_true, Bool.and_eq_false_iff, Bool.or_eq_false_iff, Bool.not_eq_true', Bool.not_eq_false', Bool.not_true, Bool.not_false, Classical.not_not, Int.not_lt, Int.not_le, reduceCtorEq, not_true_eq_false, not_false_eq_true, decide_true, decide_false, Int.reduceEq, Int.reduceLT, Int.reduceLE] at h) <;> (try (exfalso; omega)))
      | (refine FnQ.retB (resc Tryz.results29) (by simp (disch := (first | omega | ((repeat (first | exact Ext.refl _ | assumption | apply Ext.push | (refine Ext.set ?_ (by (first | omega | (simp only [next_push, next_set, next_empty]; done) | (simp only [next_push, next_set, next_empty]; omega))) _))); done) | fail)) only [cellR_op, happ, g0, g1, k0, k1, hc, hc', go_sem, Nat.reduceDiv, Nat.reduceMod, Nat.reduceAdd, Nat.reduceSub, Nat.reduceEqDiff, Nat.reduceLeDiff, Nat.reduceLT, Nat.reduceMul, reduceIte, Nat.reducePow, Int.reduceEq]; rfl) ?_; (try dsimp only)))
    · refine LoopS.again ((min (max w 0) 300).toNat - (i + 1)) (by rfl) (by omega) ⟨i + 1, x', _, rfl, rfl, by omega, by (first | omega | (simp only [next_push, next_set, next_empty]; done) | (simp only [next_push, next_set, next_empty]; omega)), by simp (disch := (first | omega | ((repeat (first | exact Ext.refl _ | assumption | apply Ext.push | (refine Ext.set ?_ (by (first | omega | (simp only [next_push, next_set, next_empty]; done) | (simp only [next_push, next_set, next_empty]; omega))) _))); done) | fail)) only [get_set, get_push, next_push, next_set, if_pos', if_neg', if_true, if_false, reduceIte, k0, k1], by simp (disch := (first | omega | ((repeat (first | exact Ext.refl _ | assumption | apply Ext.push | (refine Ext.set ?_ (by (first | omega | (simp only [next_push, next_set, next_empty]; done) | (simp only [next_push, next_set, next_empty]; omega))) _))); done) | fail)) only [get_set, get_push, next_push, next_set, if_pos', if_neg', if_true, if_false, reduceIte, k0, k1], ?_⟩
      rw [blanks_succ] at ho'
      exact ho'.set (by omega) _
    · have : i = (min (max w 0) 300).toNat := by omega
      subst this
      obtain ⟨y, hy1, hy2⟩ : ∃ y, frzC (H2.set H'.next (rblk x false)) lo' x = y ∧ Sl 3 y (cesA (blanks (min (max w 0) 300).toNat)) := by
        have ho2 := ho.set (m := H'.next) (by omega) (rblk x false)
        rcases ho2 with ⟨h1, rfl⟩ | ⟨n, e, rfl, h1, h2, h3⟩
        · exact ⟨_, frzC_v _ _ _, .inr ⟨h1, .inr rfl⟩⟩
        · exact ⟨_, osC_frz2 (by omega) h3 (by rw [ces_len]), .inl rfl⟩
      refine ⟨y, ?_, hy2⟩
      rw [frzR_agg, List.map_cons, List.map_cons, List.map_nil, frzC_v, hy1]
end
end Go.Am

namespace Go.Am
open Go.Proofs
set_option maxRecDepth 8000
set_option maxHeartbeats 4000000
section
variable {ys : List (Nat × LRec)} {lo : Nat} {H : AHeap} {A B : AV} {l m : List Ce} {wr wr' : Bool}
theorem ofC_len (r a : Int) : (ofC r a).length < 2 ^ 40 := by unfold ofC; split <;> (try split) <;> simp
theorem May_R (hA : SlH H 3 A (cesA l)) (hl : l.length < 2 ^ 40) : CallRo EZ ys lo 61 [rowA A wr] H (.v (.bool (decide (rowG l)))) := by
  refine WC.pureR rfl fun lo' H' hh => ?_
  have hA' := (hA.two (.inr ⟨[A, .v (.bool wr)], .inl (by simp)⟩) hh)
  obtain ⟨n, r, H'', h1, rfl⟩ := rowMay_wc lo' H' A l wr hA' (by rw [lo_two hh]; exact Nat.le_refl _) hl
  refine ⟨n, _, H'', h1, ?_⟩
  show frzR H'' lo' (.v _) = _
  rw [frzR_v]; congr 2; rw [decide_eq_decide]; exact rowG_P l
theorem Row_R (hA : SlH H 3 A (cesA l)) (hl : l.length < 2 ^ 40) (h32 : R32 l) : CallRo EZ ys lo 30 [rowA A wr] H (.v (.bool (decide (rowG l)))) := by
  refine WC.pureR rfl fun lo' H' hh => ?_
  have hA' := (hA.two (.inr ⟨[A, .v (.bool wr)], .inl (by simp)⟩) hh)
  obtain ⟨n, r, H'', h1, rfl⟩ := refRow_wc lo' H' A l wr hA' (by rw [lo_two hh]; exact Nat.le_refl _) hl h32
  refine ⟨n, _, H'', h1, ?_⟩
  show frzR H'' lo' (.v _) = _
  rw [frzR_v]; congr 2; rw [decide_eq_decide]; exact rowG_R l
theorem sign_R (hB : SlH H 3 B (cesA m)) (hm : m.length < 2 ^ 40) : CallRo EZ ys lo 62 [B] H (.v (.bool (decide (signI m)))) := by
  refine WC.pureR rfl fun lo' H' hh => ?_
  have hB' := (hB.two (.inr ⟨[], .inr (by simp)⟩) hh)
  have hof : SlH H' 3 (ofA (m.getD 0 zeroC).r (m.getD 0 zeroC).a) (cesA (ofC (m.getD 0 zeroC).r (m.getD 0 zeroC).a)) := .inl (ofA_Sl _ _)
  have hol := ofC_len (m.getD 0 zeroC).r (m.getD 0 zeroC).a
  refine WC.enter Tryz.func62 rfl (Nat.le_of_ble_eq_true rfl) (by simp only [Slots.of, Tryz.ntmps62, Nat.reduceAdd, Nat.reduceDiv, rows8P, row8]; rfl) ?_
  repeat' (first
   | (apply RK.free; rfl)
   | (apply RKy.pl; ((try simp only [go_sem, Nat.reduceDiv, Nat.reduceMod, Nat.reduceAdd, Nat.reduceSub, Nat.reduceEqDiff, Nat.reduceLeDiff, Nat.reduceLT, Nat.reduceMul, reduceIte, Nat.reducePow, Int.reduceEq]); rfl))
   | (apply RKp.op; ((try simp (disch := (first | omega | ((repeat (first | exact Ext.refl _ | assumption | apply Ext.push | (refine Ext.set ?_ (by (first | omega | (simp only [next_push, next_set, next_empty]; done) | (simp only [next_push, next_set, next_empty]; omega))) _))); done) | fail)) only [len_cellX lo' hB', ix_cellX lo' hB', ld_cellX lo' hB', fa_cellX lo' hB', lf_wX lo' hB', lf_aX lo' hB', lf_rX lo' hB', sl_hiX lo' hB', sl_loX lo' hB', sl_lohiX lo' hB', Int.toNat_zero, go_sem, Nat.reduceDiv, Nat.reduceMod, Nat.reduceAdd, Nat.reduceSub, Nat.reduceEqDiff, Nat.reduceLeDiff, Nat.reduceLT, Nat.reduceMul, reduceIte, Nat.reducePow, Int.reduceEq]); (first | rfl | (apply ite_ok; (first | assumption | rfl | omega | (refine ⟨?_, ?_⟩ <;> omega)); rfl))); rfl)
   | (apply RKp.call; ((first | apply IsPad_run | apply Of_run | apply Equal_run) <;> (first | assumption | rfl | omega | (refine ⟨?_, ?_⟩ <;> omega))); rfl)
   | (apply RKp.callR; ((first | apply IsPad_run | apply Of_run | apply Equal_run) <;> (first | assumption | rfl | omega | (refine ⟨?_, ?_⟩ <;> omega))); rfl; intro tr htr)
   | (apply RKp.callO; ((first | apply IsPad_run | apply Of_run | apply Equal_run) <;> (first | assumption | rfl | omega | (refine ⟨?_, ?_⟩ <;> omega))); rfl; intro tr)
   | (apply RKp.callRE; ((first | apply IsPad_run | apply Of_run | apply Equal_run) <;> (first | assumption | rfl | omega | (refine ⟨?_, ?_⟩ <;> omega))); (intro x; rfl))
   | (apply RKp.callE; ((first | apply IsPad_run | apply Of_run | apply Equal_run) <;> (first | assumption | rfl | omega | (refine ⟨?_, ?_⟩ <;> omega))); (intro x; rfl))
   | (apply RK.guard; rfl; rfl; (simp only [Nat.reduceDiv, Nat.reduceMod, get_nthS, nthS_zero, nthS_succ]; rfl))
   | apply RKg.tt
   | apply RKg.ff
   | (apply RKg.tf; rfl)
   | (apply RKg.ft; rfl)
   | (apply RKg.u; rfl)
   | ((fail_if_success (first | apply RKg.tt | apply RKg.ff | apply RKg.tf | apply RKg.ft | apply RKg.u)); refine RKg.split (fun h => ?_) (fun h => ?_) <;> (try rw [h]) <;> (try simp only [decide_eq_true_eq, decide_eq_false_iff_not, Bool.and_eq_true, Bool.or_eq_true, Bool.and_eq_false_iff, Bool.or_eq_false_iff, Bool.not_eq_true', Bool.not_eq_false', Bool.not_true, Bool.not_false, Classical.not_not, Int.not_lt, Int.not_le, reduceCtorEq, not_true_eq_false, not_false_eq_true, decide_true, decide_false, Int.reduceEq, Int.reduceLT, Int.reduceLE] at h) <;> (try (exfalso; omega)))
   | apply RK.nil
   | apply V.sq
   | apply V.bl
   | apply V.sc
   | apply V.skip
   | apply V.label
   | apply V.ret
   | apply V.exit
   | apply SeqQ.normal
   | apply SeqQ.ret
   | apply SeqQ.exit
   | apply BlockQ.normal
   | apply BlockQ.ret
   | apply BlockQ.here
   | (apply BlockQ.there; decide)
   | apply LoopS.ret
   | apply LoopS.exit
   | apply LoopF.ret
   | apply LoopF.exit
   | apply V.regK
    | (refine V.regdK (by kernel_rfl) ?_)
   | (refine DrawK.mk ?_ ?_; (focus (simp only [List.reverse_cons, List.reverse_nil, List.nil_append, List.cons_append]; decide +kernel)))
   | (apply DrawK.k3; (simp only [List.reverse_cons, List.reverse_nil, List.nil_append, List.cons_append]; rfl); (focus ((repeat (first | exact Kinds3.nil | apply Kinds3.z | (apply Kinds3.ro; (focus ((first | exact bits0 | (refine bits1 ?_; (first | omega | (simp only [next_push, next_set, next_empty]; done) | (simp only [next_push, next_set, next_empty]; omega))) | (refine rd_lt hA' _ ?_; (first | omega | (simp only [next_push, next_set, next_empty]; done) | (simp only [next_push, next_set, next_empty]; omega))) | (refine rd_lt hB' _ ?_; (first | omega | (simp only [next_push, next_set, next_empty]; done) | (simp only [next_push, next_set, next_empty]; omega))) | (refine rd_lt hC' _ ?_; (first | omega | (simp only [next_push, next_set, next_empty]; done) | (simp only [next_push, next_set, next_empty]; omega)))); done))) | (apply Kinds3.rd; (focus ((first | exact bits0 | (refine bits1 ?_; (first | omega | (simp only [next_push, next_set, next_empty]; done) | (simp only [next_push, next_set, next_empty]; omega))) | (refine rd_lt hA' _ ?_; (first | omega | (simp only [next_push, next_set, next_empty]; done) | (simp only [next_push, next_set, next_empty]; omega))) | (refine rd_lt hB' _ ?_; (first | omega | (simp only [next_push, next_set, next_empty]; done) | (simp only [next_push, next_set, next_empty]; omega))) | (refine rd_lt hC' _ ?_; (first | omega | (simp only [next_push, next_set, next_empty]; done) | (simp only [next_push, next_set, next_empty]; omega)))); done))) | (apply Kinds3.nw 0; (focus (first | omega | (simp only [next_push, next_set, next_empty]; done) | (simp only [next_push, next_set, next_empty]; omega))); (focus ((first | exact bits0 | (refine bits1 ?_; (first | omega | (simp only [next_push, next_set, next_empty]; done) | (simp only [next_push, next_set, next_empty]; omega))) | (refine rd_lt hA' _ ?_; (first | omega | (simp only [next_push, next_set, next_empty]; done) | (simp only [next_push, next_set, next_empty]; omega))) | (refine rd_lt hB' _ ?_; (first | omega | (simp only [next_push, next_set, next_empty]; done) | (simp only [next_push, next_set, next_empty]; omega))) | (refine rd_lt hC' _ ?_; (first | omega | (simp only [next_push, next_set, next_empty]; done) | (simp only [next_push, next_set, next_empty]; omega)))); done))) | (apply Kinds3.nw 1; (focus (first | omega | (simp only [next_push, next_set, next_empty]; done) | (simp only [next_push, next_set, next_empty]; omega))); (focus ((first | exact bits0 | (refine bits1 ?_; (first | omega | (simp only [next_push, next_set, next_empty]; done) | (simp only [next_push, next_set, next_empty]; omega))) | (refine rd_lt hA' _ ?_; (first | omega | (simp only [next_push, next_set, next_empty]; done) | (simp only [next_push, next_set, next_empty]; omega))) | (refine rd_lt hB' _ ?_; (first | omega | (simp only [next_push, next_set, next_empty]; done) | (simp only [next_push, next_set, next_empty]; omega))) | (refine rd_lt hC' _ ?_; (first | omega | (simp only [next_push, next_set, next_empty]; done) | (simp only [next_push, next_set, next_empty]; omega)))); done))) | (apply Kinds3.nw 2; (focus (first | omega | (simp only [next_push, next_set, next_empty]; done) | (simp only [next_push, next_set, next_empty]; omega))); (focus ((first | exact bits0 | (refine bits1 ?_; (first | omega | (simp only [next_push, next_set, next_empty]; done) | (simp only [next_push, next_set, next_empty]; omega))) | (refine rd_lt hA' _ ?_; (first | omega | (simp only [next_push, next_set, next_empty]; done) | (simp only [next_push, next_set, next_empty]; omega))) | (refine rd_lt hB' _ ?_; (first | omega | (simp only [next_push, next_set, next_empty]; done) | (simp only [next_push, next_set, next_empty]; omega))) | (refine rd_lt hC' _ ?_; (first | omega | (simp only [next_push, next_set, next_empty]; done) | (simp only [next_push, next_set, next_empty]; omega)))); done))) | (apply Kinds3.ra; (focus (first | exact RoT.zero | exact RoT.rd | exact RoT.all | exact RoT.rdTr _ | assumption))) | apply Kinds3.any)); done)); decide +kernel)
   | (refine V.condT rfl ?_)
   | (refine V.condF rfl ?_)
   | (refine V.cond rfl (fun h => ?_) (fun h => ?_) <;> (try simp only [decide_eq_true_eq, decide_eq_false_iff_not, Bool.and_eq_true, Bool.or_eq_true, Bool.and_eq_false_iff, Bool.or_eq_false_iff, Bool.not_eq_true', Bool.not_eq_false', Bool.not_true, Bool.not_false, Classical.not_not, Int.not_lt, Int.not_le, reduceCtorEq, not_true_eq_false, not_false_eq_true, decide_true, decide_false, Int.reduceEq, Int.reduceLT, Int.reduceLE] at h) <;> (try (exfalso; omega)))
    | (refine FnQ.ret (res1 Tryz.results62) (by simp only [Nat.reduceDiv, Nat.reduceMod, get_nthS, nthS_zero, nthS_succ]; rfl) ?_; (try dsimp only)))
  all_goals
    (rw [frzR_v]; congr 2; rw [Bool.eq_iff_iff, decide_eq_true_eq]
     match m with
     | [] => first | (simp [signI]; done) | (simp at *; done)
     | c :: t =>
       have hs := signI_of c t
       have hz : (t = []) ↔ ((c :: t).length = 1) := by cases t <;> simp
       have hp : c = padC ↔ c.r = 0 ∧ c.w = 1 ∧ c.a = 0 := Ce.eqv
       simp only [List.getD_cons_zero, List.length_cons, decide_eq_true_eq] at *
       rw [← hs, hp]
       first
       | (grind)
       | trace_state)
theorem frzC_own {H0 H : AHeap} {lo : Nat} {A : AV} {sz : Nat} {es : List (List AV)} (h : SlH H0 sz A es) (hlo : lo = H0.next) : frzC H lo A = A := by
  rcases h with (rfl | ⟨_, rfl | rfl⟩) | ⟨n, e, off, b, rfl, hn, _⟩
  · rfl
  · rfl
  · rfl
  · show renC H lo 0 [] frzDepth (.os n e off es.length) = _
    simp only [renC, if_pos (by omega : n < lo)]
/-- What Set is told to do may be done. -/
def setOk (l : List Ce) (col : Int) (m : List Ce) : Prop := rowG l ∧ signI m ∧ 0 ≤ col ∧ col ≤ (l.length : Int) - m.length
instance (l : List Ce) (col : Int) (m : List Ce) : Decidable (setOk l col m) := inferInstanceAs (Decidable (_ ∧ _))
/-- What Set tells. -/
def SetP (l : List Ce) (wr : Bool) (A : AV) (col : Int) (m : List Ce) (x : AV) : Prop :=
  (setOk l col m ∧ ∃ A', x = .tup [rowA A' wr, .v (.bool true)] ∧ Sl 3 A' (cesA (putL l col.toNat m))) ∨ (¬ setOk l col m ∧ x = .tup [rowA A wr, .v (.bool false)])
theorem Set_run (hA : SlH H 3 A (cesA l)) (hB : SlH H 3 B (cesA m)) (hl : l.length < 2 ^ 40) (hm : m.length < 2 ^ 40) (col : Int) (hc : -9223372036854775808 ≤ col ∧ col ≤ 9223372036854775807) : CallRoE EZ ys lo 23 [rowA A wr, .v (.int .i64 col), B] H (SetP l wr A col m) := by
  refine WC.pureE rfl fun lo' H' hh => ?_
  have hA' := (hA.two (.inr ⟨[A, .v (.bool wr)], .inl (by simp)⟩) hh)
  have hB' := (hB.two (.inr ⟨[], .inr (by simp)⟩) hh)
  have hlo := lo_two hh
  have hA2 : SlH ((H'.push (rblk A wr)).push zblk) 3 A (cesA l) := (hA'.push _).push _
  have hB2 : SlH ((H'.push (rblk A wr)).push zblk) 3 B (cesA m) := (hB'.push _).push _
  by_cases hok : setOk l col m
  · have hok' := hok
    obtain ⟨h1, h2, h3, h4⟩ := hok'
    have hcn : ((col.toNat : Nat) : Int) = col := by omega
    have hp := fun hx => put_run (ys := []) (lo := lo') (wr := wr) (H := (H'.push (rblk A wr)).push zblk) hA2 hB2 hl col.toNat (by have := (signI_G h2).len; omega) (by have := (signI_G h2).len; omega) hx
    rw [hcn] at hp
    have hz : (l.getD col.toNat zeroC).w = 0 → 0 < col.toNat := fun e => (((h1.2 col.toNat (by have := (signI_G h2).len; omega)).2.1 e).1)
    have hp := hp hz
    have d1 : decide (rowG l) = true := decide_eq_true h1
    have d2 : decide (signI m) = true := decide_eq_true h2
    refine WC.enter Tryz.func23 rfl (Nat.le_of_ble_eq_true rfl) (by simp only [Slots.of, Tryz.ntmps23, Nat.reduceAdd, Nat.reduceDiv, rows8P, row8]; rfl) ?_
    repeat' (first
     | (apply RK.free; rfl)
     | (apply RKy.pl; ((try simp only [go_sem, Nat.reduceDiv, Nat.reduceMod, Nat.reduceAdd, Nat.reduceSub, Nat.reduceEqDiff, Nat.reduceLeDiff, Nat.reduceLT, Nat.reduceMul, reduceIte, Nat.reducePow, Int.reduceEq]); rfl))
     | (apply RKp.op; ((try simp (disch := (first | omega | ((repeat (first | exact Ext.refl _ | assumption | apply Ext.push | (refine Ext.set ?_ (by (first | omega | (simp only [next_push, next_set, next_empty]; done) | (simp only [next_push, next_set, next_empty]; omega))) _))); done) | fail)) only [len_cellX lo' hA', ix_cellX lo' hA', ld_cellX lo' hA', fa_cellX lo' hA', lf_wX lo' hA', lf_aX lo' hA', lf_rX lo' hA', sl_hiX lo' hA', sl_loX lo' hA', sl_lohiX lo' hA', len_cellX lo' hB', ix_cellX lo' hB', ld_cellX lo' hB', fa_cellX lo' hB', lf_wX lo' hB', lf_aX lo' hB', lf_rX lo' hB', sl_hiX lo' hB', sl_loX lo' hB', sl_lohiX lo' hB', d1, d2, go_sem, Nat.reduceDiv, Nat.reduceMod, Nat.reduceAdd, Nat.reduceSub, Nat.reduceEqDiff, Nat.reduceLeDiff, Nat.reduceLT, Nat.reduceMul, reduceIte, Nat.reducePow, Int.reduceEq]); (first | rfl | (apply ite_ok; (first | assumption | rfl | omega | (refine ⟨?_, ?_⟩ <;> omega)); rfl))); rfl)
     | (apply RKp.call; ((first | apply May_R | apply sign_R | apply hp) <;> (first | assumption | rfl | omega | (refine ⟨?_, ?_⟩ <;> omega))); rfl)
     | (apply RKp.callR; ((first | apply May_R | apply sign_R | apply hp) <;> (first | assumption | rfl | omega | (refine ⟨?_, ?_⟩ <;> omega))); rfl; intro tr htr)
     | (apply RKp.callO; ((first | apply May_R | apply sign_R | apply hp) <;> (first | assumption | rfl | omega | (refine ⟨?_, ?_⟩ <;> omega))); rfl; intro tr)
     | (apply RKp.callRE; ((first | apply May_R | apply sign_R | apply hp) <;> (first | assumption | rfl | omega | (refine ⟨?_, ?_⟩ <;> omega))); (intro x; rfl))
     | (apply RKp.callE; ((first | apply May_R | apply sign_R | apply hp) <;> (first | assumption | rfl | omega | (refine ⟨?_, ?_⟩ <;> omega))); (intro x; rfl))
     | (apply RK.guard; rfl; rfl; (simp only [Nat.reduceDiv, Nat.reduceMod, get_nthS, nthS_zero, nthS_succ]; rfl))
     | apply RKg.tt
     | apply RKg.ff
     | (apply RKg.tf; rfl)
     | (apply RKg.ft; rfl)
     | (apply RKg.u; rfl)
     | ((fail_if_success (first | apply RKg.tt | apply RKg.ff | apply RKg.tf | apply RKg.ft | apply RKg.u)); refine RKg.split (fun h => ?_) (fun h => ?_) <;> (try rw [h]) <;> (try simp only [decide_eq_true_eq, decide_eq_false_iff_not, Bool.and_eq_true, Bool.or_eq_true, Bool.and_eq_false_iff, Bool.or_eq_false_iff, Bool.not_eq_true', Bool.not_eq_false', Bool.not_true, Bool.not_false, Classical.not_not, Int.not_lt, Int.not_le, reduceCtorEq, not_true_eq_false, not_false_eq_true, decide_true, decide_false, Int.reduceEq, Int.reduceLT, Int.reduceLE] at h) <;> (try (exfalso; omega)))
     | apply RK.nil
     | apply V.sq
     | apply V.bl
     | apply V.sc
     | apply V.skip
     | apply V.label
     | apply V.ret
     | apply V.exit
     | apply SeqQ.normal
     | apply SeqQ.ret
     | apply SeqQ.exit
     | apply BlockQ.normal
     | apply BlockQ.ret
     | apply BlockQ.here
     | (apply BlockQ.there; decide)
     | apply LoopS.ret
     | apply LoopS.exit
     | apply LoopF.ret
     | apply LoopF.exit
     | apply V.regK
     | (refine V.condT rfl ?_)
     | (refine V.condF rfl ?_)
     | (refine V.cond rfl (fun h => ?_) (fun h => ?_) <;> (try simp only [decide_eq_true_eq, decide_eq_false_iff_not, Bool.and_eq_true, Bool.or_eq_true, Bool.and_eq_false_iff, Bool.or_eq_false_iff, Bool.not_eq_true', Bool.not_eq_false', Bool.not_true, Bool.not_false, Classical.not_not, Int.not_lt, Int.not_le, reduceCtorEq, not_true_eq_false, not_false_eq_true, decide_true, decide_false, Int.reduceEq, Int.reduceLT, Int.reduceLE] at h) <;> (try (exfalso; omega)))
      | (refine FnQ.retB (resct Tryz.results23) (by simp (disch := (first | omega | ((repeat (first | exact Ext.refl _ | assumption | apply Ext.push | (refine Ext.set ?_ (by (first | omega | (simp only [next_push, next_set, next_empty]; done) | (simp only [next_push, next_set, next_empty]; omega))) _))); done) | fail)) only [cellR_op, len_cellX lo' hA', ix_cellX lo' hA', ld_cellX lo' hA', fa_cellX lo' hA', lf_wX lo' hA', lf_aX lo' hA', lf_rX lo' hA', sl_hiX lo' hA', sl_loX lo' hA', sl_lohiX lo' hA', len_cellX lo' hB', ix_cellX lo' hB', ld_cellX lo' hB', fa_cellX lo' hB', lf_wX lo' hB', lf_aX lo' hB', lf_rX lo' hB', sl_hiX lo' hB', sl_loX lo' hB', sl_lohiX lo' hB', d1, d2, go_sem, Nat.reduceDiv, Nat.reduceMod, Nat.reduceAdd, Nat.reduceSub, Nat.reduceEqDiff, Nat.reduceLeDiff, Nat.reduceLT, Nat.reduceMul, reduceIte, Nat.reducePow, Int.reduceEq]; rfl) ?_; (try dsimp only)))
    refine .inl ⟨hok, .sl 3 (cesA (putL l col.toNat m)), ?_, .inl rfl⟩
    rfl
  · refine WC.enter Tryz.func23 rfl (Nat.le_of_ble_eq_true rfl) (by simp only [Slots.of, Tryz.ntmps23, Nat.reduceAdd, Nat.reduceDiv, rows8P, row8]; rfl) ?_
    repeat' (first
     | (apply RK.free; rfl)
     | (apply RKy.pl; ((try simp only [go_sem, Nat.reduceDiv, Nat.reduceMod, Nat.reduceAdd, Nat.reduceSub, Nat.reduceEqDiff, Nat.reduceLeDiff, Nat.reduceLT, Nat.reduceMul, reduceIte, Nat.reducePow, Int.reduceEq]); rfl))
     | (apply RKp.op; ((try simp (disch := (first | omega | ((repeat (first | exact Ext.refl _ | assumption | apply Ext.push | (refine Ext.set ?_ (by (first | omega | (simp only [next_push, next_set, next_empty]; done) | (simp only [next_push, next_set, next_empty]; omega))) _))); done) | fail)) only [len_cellX lo' hA', ix_cellX lo' hA', ld_cellX lo' hA', fa_cellX lo' hA', lf_wX lo' hA', lf_aX lo' hA', lf_rX lo' hA', sl_hiX lo' hA', sl_loX lo' hA', sl_lohiX lo' hA', len_cellX lo' hB', ix_cellX lo' hB', ld_cellX lo' hB', fa_cellX lo' hB', lf_wX lo' hB', lf_aX lo' hB', lf_rX lo' hB', sl_hiX lo' hB', sl_loX lo' hB', sl_lohiX lo' hB', go_sem, Nat.reduceDiv, Nat.reduceMod, Nat.reduceAdd, Nat.reduceSub, Nat.reduceEqDiff, Nat.reduceLeDiff, Nat.reduceLT, Nat.reduceMul, reduceIte, Nat.reducePow, Int.reduceEq]); (first | rfl | (apply ite_ok; (first | assumption | rfl | omega | (refine ⟨?_, ?_⟩ <;> omega)); rfl))); rfl)
     | (apply RKp.call; ((first | apply May_R | apply sign_R) <;> (first | assumption | rfl | omega | (refine ⟨?_, ?_⟩ <;> omega))); rfl)
     | (apply RKp.callR; ((first | apply May_R | apply sign_R) <;> (first | assumption | rfl | omega | (refine ⟨?_, ?_⟩ <;> omega))); rfl; intro tr htr)
     | (apply RKp.callO; ((first | apply May_R | apply sign_R) <;> (first | assumption | rfl | omega | (refine ⟨?_, ?_⟩ <;> omega))); rfl; intro tr)
     | (apply RKp.callRE; ((first | apply May_R | apply sign_R) <;> (first | assumption | rfl | omega | (refine ⟨?_, ?_⟩ <;> omega))); (intro x; rfl))
     | (apply RKp.callE; ((first | apply May_R | apply sign_R) <;> (first | assumption | rfl | omega | (refine ⟨?_, ?_⟩ <;> omega))); (intro x; rfl))
     | (apply RK.guard; rfl; rfl; (simp only [Nat.reduceDiv, Nat.reduceMod, get_nthS, nthS_zero, nthS_succ]; rfl))
     | apply RKg.tt
     | apply RKg.ff
     | (apply RKg.tf; rfl)
     | (apply RKg.ft; rfl)
     | (apply RKg.u; rfl)
     | ((fail_if_success (first | apply RKg.tt | apply RKg.ff | apply RKg.tf | apply RKg.ft | apply RKg.u)); refine RKg.split (fun h => ?_) (fun h => ?_) <;> (try rw [h]) <;> (try simp only [decide_eq_true_eq, decide_eq_false_iff_not, Bool.and_eq_true, Bool.or_eq_true, Bool.and_eq_false_iff, Bool.or_eq_false_iff, Bool.not_eq_true', Bool.not_eq_false', Bool.not_true, Bool.not_false, Classical.not_not, Int.not_lt, Int.not_le, reduceCtorEq, not_true_eq_false, not_false_eq_true, decide_true, decide_false, Int.reduceEq, Int.reduceLT, Int.reduceLE] at h) <;> (try (exfalso; omega)))
     | apply RK.nil
     | apply V.sq
     | apply V.bl
     | apply V.sc
     | apply V.skip
     | apply V.label
     | apply V.ret
     | apply V.exit
     | apply SeqQ.normal
     | apply SeqQ.ret
     | apply SeqQ.exit
     | apply BlockQ.normal
     | apply BlockQ.ret
     | apply BlockQ.here
     | (apply BlockQ.there; decide)
     | apply LoopS.ret
     | apply LoopS.exit
     | apply LoopF.ret
     | apply LoopF.exit
     | apply V.regK
     | (refine V.condT rfl ?_)
     | (refine V.condF rfl ?_)
     | (refine V.cond rfl (fun h => ?_) (fun h => ?_) <;> (try simp only [decide_eq_true_eq, decide_eq_false_iff_not, Bool.and_eq_true, Bool.or_eq_true, Bool.and_eq_false_iff, Bool.or_eq_false_iff, Bool.not_eq_true', Bool.not_eq_false', Bool.not_true, Bool.not_false, Classical.not_not, Int.not_lt, Int.not_le, reduceCtorEq, not_true_eq_false, not_false_eq_true, decide_true, decide_false, Int.reduceEq, Int.reduceLT, Int.reduceLE] at h) <;> (try (exfalso; omega)))
      | (refine FnQ.retB (resct Tryz.results23) (by simp (disch := (first | omega | ((repeat (first | exact Ext.refl _ | assumption | apply Ext.push | (refine Ext.set ?_ (by (first | omega | (simp only [next_push, next_set, next_empty]; done) | (simp only [next_push, next_set, next_empty]; omega))) _))); done) | fail)) only [cellR_op, len_cellX lo' hA', ix_cellX lo' hA', ld_cellX lo' hA', fa_cellX lo' hA', lf_wX lo' hA', lf_aX lo' hA', lf_rX lo' hA', sl_hiX lo' hA', sl_loX lo' hA', sl_lohiX lo' hA', len_cellX lo' hB', ix_cellX lo' hB', ld_cellX lo' hB', fa_cellX lo' hB', lf_wX lo' hB', lf_aX lo' hB', lf_rX lo' hB', sl_hiX lo' hB', sl_loX lo' hB', sl_lohiX lo' hB', go_sem, Nat.reduceDiv, Nat.reduceMod, Nat.reduceAdd, Nat.reduceSub, Nat.reduceEqDiff, Nat.reduceLeDiff, Nat.reduceLT, Nat.reduceMul, reduceIte, Nat.reducePow, Int.reduceEq]; rfl) ?_; (try dsimp only)))
    all_goals first
      | (refine .inr ⟨hok, ?_⟩
         rw [frzR_tup, List.map_cons, List.map_cons, List.map_nil, frzR1_v, frzR1_agg, List.map_cons, List.map_cons, List.map_nil, frzC_v, frzC_own hA' hlo])
      | (exfalso; unfold setOk at hok; omega)
      | (exfalso; apply hok; unfold setOk; refine ⟨?_, ?_, ?_, ?_⟩ <;> first | assumption | omega)
      | trace_state
theorem Used_run (hA : SlH H 3 A (cesA l)) (hl : l.length < 2 ^ 40) : CallRo EZ ys lo 31 [rowA A wr] H (.v (.int .i64 (if rowG l then (trimL l).length else 0 : Nat))) := by
  refine WC.pureR rfl fun lo' H' hh => ?_
  have hA' := (hA.two (.inr ⟨[A, .v (.bool wr)], .inl (by simp)⟩) hh)
  have hA1 : SlH (H'.push (rblk A wr)) 3 A (cesA l) := (hA'.push _)
  refine WC.enter Tryz.func31 rfl (Nat.le_of_ble_eq_true rfl) (by simp only [Slots.of, Tryz.ntmps31, Nat.reduceAdd, Nat.reduceDiv, rows8P, row8]; rfl) ?_
  repeat' (first
   | (apply RK.free; rfl)
   | (apply RKy.pl; ((try simp only [go_sem, Nat.reduceDiv, Nat.reduceMod, Nat.reduceAdd, Nat.reduceSub, Nat.reduceEqDiff, Nat.reduceLeDiff, Nat.reduceLT, Nat.reduceMul, reduceIte, Nat.reducePow, Int.reduceEq]); rfl))
   | (apply RKp.op; ((try simp (disch := (first | omega | ((repeat (first | exact Ext.refl _ | assumption | apply Ext.push | (refine Ext.set ?_ (by (first | omega | (simp only [next_push, next_set, next_empty]; done) | (simp only [next_push, next_set, next_empty]; omega))) _))); done) | fail)) only [len_cellX lo' hA', ix_cellX lo' hA', ld_cellX lo' hA', fa_cellX lo' hA', lf_wX lo' hA', lf_aX lo' hA', lf_rX lo' hA', sl_hiX lo' hA', sl_loX lo' hA', sl_lohiX lo' hA', go_sem, Nat.reduceDiv, Nat.reduceMod, Nat.reduceAdd, Nat.reduceSub, Nat.reduceEqDiff, Nat.reduceLeDiff, Nat.reduceLT, Nat.reduceMul, reduceIte, Nat.reducePow, Int.reduceEq]); (first | rfl | (apply ite_ok; (first | assumption | rfl | omega | (refine ⟨?_, ?_⟩ <;> omega)); rfl))); rfl)
   | (apply RKp.call; ((first | apply May_R | apply Trim_run) <;> (first | assumption | rfl | omega | (refine ⟨?_, ?_⟩ <;> omega))); rfl)
   | (apply RKp.callR; ((first | apply May_R | apply Trim_run) <;> (first | assumption | rfl | omega | (refine ⟨?_, ?_⟩ <;> omega))); rfl; intro tr htr)
   | (apply RKp.callO; ((first | apply May_R | apply Trim_run) <;> (first | assumption | rfl | omega | (refine ⟨?_, ?_⟩ <;> omega))); rfl; intro tr)
   | (apply RKp.callRE; ((first | apply May_R | apply Trim_run) <;> (first | assumption | rfl | omega | (refine ⟨?_, ?_⟩ <;> omega))); (intro x; rfl))
   | (apply RKp.callE; ((first | apply May_R | apply Trim_run) <;> (first | assumption | rfl | omega | (refine ⟨?_, ?_⟩ <;> omega))); (intro x; rfl))
   | (apply RK.guard; rfl; rfl; (simp only [Nat.reduceDiv, Nat.reduceMod, get_nthS, nthS_zero, nthS_succ]; rfl))
   | apply RKg.tt
   | apply RKg.ff
   | (apply RKg.tf; rfl)
   | (apply RKg.ft; rfl)
   | (apply RKg.u; rfl)
   | ((fail_if_success (first | apply RKg.tt | apply RKg.ff | apply RKg.tf | apply RKg.ft | apply RKg.u)); refine RKg.split (fun h => ?_) (fun h => ?_) <;> (try rw [h]) <;> (try simp only [decide_eq_true_eq, decide_eq_false_iff_not, Bool.and_eq_true, Bool.or_eq_true, Bool.and_eq_false_iff, Bool.or_eq_false_iff, Bool.not_eq_true', Bool.not_eq_false', Bool.not_true, Bool.not_false, Classical.not_not, Int.not_lt, Int.not_le, reduceCtorEq, not_true_eq_false, not_false_eq_true, decide_true, decide_false, Int.reduceEq, Int.reduceLT, Int.reduceLE] at h) <;> (try (exfalso; omega)))
   | apply RK.nil
   | apply V.sq
   | apply V.bl
   | apply V.sc
   | apply V.skip
   | apply V.label
   | apply V.ret
   | apply V.exit
   | apply SeqQ.normal
   | apply SeqQ.ret
   | apply SeqQ.exit
   | apply BlockQ.normal
   | apply BlockQ.ret
   | apply BlockQ.here
   | (apply BlockQ.there; decide)
   | apply LoopS.ret
   | apply LoopS.exit
   | apply LoopF.ret
   | apply LoopF.exit
   | apply V.regK
   | (refine V.condT rfl ?_)
   | (refine V.condF rfl ?_)
   | (refine V.cond rfl (fun h => ?_) (fun h => ?_) <;> (try simp only [decide_eq_true_eq, decide_eq_false_iff_not, Bool.and_eq_true, Bool.or_eq_true, Bool.and_eq_false_iff, Bool.or_eq_false_iff, Bool.not_eq_true', Bool.not_eq_false', Bool.not_true, Bool.not_false, Classical.not_not, Int.not_lt, Int.not_le, reduceCtorEq, not_true_eq_false, not_false_eq_true, decide_true, decide_false, Int.reduceEq, Int.reduceLT, Int.reduceLE] at h) <;> (try (exfalso; omega)))
    | (refine FnQ.ret (res1 Tryz.results31) (by simp only [Nat.reduceDiv, Nat.reduceMod, get_nthS, nthS_zero, nthS_succ]; rfl) ?_; (try dsimp only)))
  · rw [frzR_v, if_neg h]; rfl
  · rintro x tr htr hx
    have hC' : SlH H' 3 x (cesA (trimL l)) := .inl hx
    repeat' (first
     | (apply RK.free; rfl)
     | (apply RKy.pl; ((try simp only [go_sem, Nat.reduceDiv, Nat.reduceMod, Nat.reduceAdd, Nat.reduceSub, Nat.reduceEqDiff, Nat.reduceLeDiff, Nat.reduceLT, Nat.reduceMul, reduceIte, Nat.reducePow, Int.reduceEq]); rfl))
     | (apply RKp.op; ((try simp (disch := (first | omega | ((repeat (first | exact Ext.refl _ | assumption | apply Ext.push | (refine Ext.set ?_ (by (first | omega | (simp only [next_push, next_set, next_empty]; done) | (simp only [next_push, next_set, next_empty]; omega))) _))); done) | fail)) only [len_cellX lo' hC', ix_cellX lo' hC', ld_cellX lo' hC', fa_cellX lo' hC', lf_wX lo' hC', lf_aX lo' hC', lf_rX lo' hC', sl_hiX lo' hC', sl_loX lo' hC', sl_lohiX lo' hC', go_sem, Nat.reduceDiv, Nat.reduceMod, Nat.reduceAdd, Nat.reduceSub, Nat.reduceEqDiff, Nat.reduceLeDiff, Nat.reduceLT, Nat.reduceMul, reduceIte, Nat.reducePow, Int.reduceEq]); (first | rfl | (apply ite_ok; (first | assumption | rfl | omega | (refine ⟨?_, ?_⟩ <;> omega)); rfl))); rfl)
     | (apply RK.guard; rfl; rfl; (simp only [Nat.reduceDiv, Nat.reduceMod, get_nthS, nthS_zero, nthS_succ]; rfl))
     | apply RKg.tt
     | apply RKg.ff
     | (apply RKg.tf; rfl)
     | (apply RKg.ft; rfl)
     | (apply RKg.u; rfl)
     | ((fail_if_success (first | apply RKg.tt | apply RKg.ff | apply RKg.tf | apply RKg.ft | apply RKg.u)); refine RKg.split (fun h => ?_) (fun h => ?_) <;> (try rw [h]) <;> (try simp only [decide_eq_true_eq, decide_eq_false_iff_not, Bool.and_eq_true, Bool.or_eq_true, Bool.and_eq_false_iff, Bool.or_eq_false_iff, Bool.not_eq_true', Bool.not_eq_false', Bool.not_true, Bool.not_false, Classical.not_not, Int.not_lt, Int.not_le, reduceCtorEq, not_true_eq_false, not_false_eq_true, decide_true, decide_false, Int.reduceEq, Int.reduceLT, Int.reduceLE] at h) <;> (try (exfalso; omega)))
     | apply RK.nil
     | apply V.sq
     | apply V.bl
     | apply V.sc
     | apply V.skip
     | apply V.label
     | apply V.ret
     | apply V.exit
     | apply SeqQ.normal
     | apply SeqQ.ret
     | apply SeqQ.exit
     | apply BlockQ.normal
     | apply BlockQ.ret
     | apply BlockQ.here
     | (apply BlockQ.there; decide)
     | apply LoopS.ret
     | apply LoopS.exit
     | apply LoopF.ret
     | apply LoopF.exit
     | apply V.regK
     | (refine V.condT rfl ?_)
     | (refine V.condF rfl ?_)
     | (refine V.cond rfl (fun h => ?_) (fun h => ?_) <;> (try simp only [decide_eq_true_eq, decide_eq_false_iff_not, Bool.and_eq_true, Bool.or_eq_true, Bool.and_eq_false_iff, Bool.or_eq_false_iff, Bool.not_eq_true', Bool.not_eq_false', Bool.not_true, Bool.not_false, Classical.not_not, Int.not_lt, Int.not_le, reduceCtorEq, not_true_eq_false, not_false_eq_true, decide_true, decide_false, Int.reduceEq, Int.reduceLT, Int.reduceLE] at h) <;> (try (exfalso; omega)))
      | (refine FnQ.ret (res1 Tryz.results31) (by simp only [Nat.reduceDiv, Nat.reduceMod, get_nthS, nthS_zero, nthS_succ]; rfl) ?_; (try dsimp only)))
    rw [frzR_v, if_pos h]
theorem refUsed_run (hA : SlH H 3 A (cesA l)) (hl : l.length < 2 ^ 40) : CallRo EZ ys lo 33 [rowA A wr] H (.v (.int .i64 ((trimL l).length : Nat))) := by
  refine WC.pureR rfl fun lo' H' hh => ?_
  have hA' := (hA.two (.inr ⟨[A, .v (.bool wr)], .inl (by simp)⟩) hh)
  have hA1 : SlH (H'.push (rblk A wr)) 3 A (cesA l) := (hA'.push _)
  refine WC.enter Tryz.func33 rfl (Nat.le_of_ble_eq_true rfl) (by simp only [Slots.of, Tryz.ntmps33, Nat.reduceAdd, Nat.reduceDiv, rows8P, row8]; rfl) ?_
  repeat' (first
   | (apply RK.free; rfl)
   | (apply RKy.pl; ((try simp only [go_sem, Nat.reduceDiv, Nat.reduceMod, Nat.reduceAdd, Nat.reduceSub, Nat.reduceEqDiff, Nat.reduceLeDiff, Nat.reduceLT, Nat.reduceMul, reduceIte, Nat.reducePow, Int.reduceEq]); rfl))
   | (apply RKp.op; ((try simp (disch := (first | omega | ((repeat (first | exact Ext.refl _ | assumption | apply Ext.push | (refine Ext.set ?_ (by (first | omega | (simp only [next_push, next_set, next_empty]; done) | (simp only [next_push, next_set, next_empty]; omega))) _))); done) | fail)) only [len_cellX lo' hA', ix_cellX lo' hA', ld_cellX lo' hA', fa_cellX lo' hA', lf_wX lo' hA', lf_aX lo' hA', lf_rX lo' hA', sl_hiX lo' hA', sl_loX lo' hA', sl_lohiX lo' hA', go_sem, Nat.reduceDiv, Nat.reduceMod, Nat.reduceAdd, Nat.reduceSub, Nat.reduceEqDiff, Nat.reduceLeDiff, Nat.reduceLT, Nat.reduceMul, reduceIte, Nat.reducePow, Int.reduceEq]); (first | rfl | (apply ite_ok; (first | assumption | rfl | omega | (refine ⟨?_, ?_⟩ <;> omega)); rfl))); rfl)
   | (apply RKp.call; (apply refTrim_run <;> (first | assumption | rfl | omega | (refine ⟨?_, ?_⟩ <;> omega))); rfl)
   | (apply RKp.callR; (apply refTrim_run <;> (first | assumption | rfl | omega | (refine ⟨?_, ?_⟩ <;> omega))); rfl; intro tr htr)
   | (apply RKp.callO; (apply refTrim_run <;> (first | assumption | rfl | omega | (refine ⟨?_, ?_⟩ <;> omega))); rfl; intro tr)
   | (apply RKp.callRE; (apply refTrim_run <;> (first | assumption | rfl | omega | (refine ⟨?_, ?_⟩ <;> omega))); (intro x; rfl))
   | (apply RKp.callE; (apply refTrim_run <;> (first | assumption | rfl | omega | (refine ⟨?_, ?_⟩ <;> omega))); (intro x; rfl))
   | (apply RK.guard; rfl; rfl; (simp only [Nat.reduceDiv, Nat.reduceMod, get_nthS, nthS_zero, nthS_succ]; rfl))
   | apply RKg.tt
   | apply RKg.ff
   | (apply RKg.tf; rfl)
   | (apply RKg.ft; rfl)
   | (apply RKg.u; rfl)
   | ((fail_if_success (first | apply RKg.tt | apply RKg.ff | apply RKg.tf | apply RKg.ft | apply RKg.u)); refine RKg.split (fun h => ?_) (fun h => ?_) <;> (try rw [h]) <;> (try simp only [decide_eq_true_eq, decide_eq_false_iff_not, Bool.and_eq_true, Bool.or_eq_true, Bool.and_eq_false_iff, Bool.or_eq_false_iff, Bool.not_eq_true', Bool.not_eq_false', Bool.not_true, Bool.not_false, Classical.not_not, Int.not_lt, Int.not_le, reduceCtorEq, not_true_eq_false, not_false_eq_true, decide_true, decide_false, Int.reduceEq, Int.reduceLT, Int.reduceLE] at h) <;> (try (exfalso; omega)))
   | apply RK.nil
   | apply V.sq
   | apply V.bl
   | apply V.sc
   | apply V.skip
   | apply V.label
   | apply V.ret
   | apply V.exit
   | apply SeqQ.normal
   | apply SeqQ.ret
   | apply SeqQ.exit
   | apply BlockQ.normal
   | apply BlockQ.ret
   | apply BlockQ.here
   | (apply BlockQ.there; decide)
   | apply LoopS.ret
   | apply LoopS.exit
   | apply LoopF.ret
   | apply LoopF.exit
   | apply V.regK
   | (refine V.condT rfl ?_)
   | (refine V.condF rfl ?_)
   | (refine V.cond rfl (fun h => ?_) (fun h => ?_) <;> (try simp only [decide_eq_true_eq, decide_eq_false_iff_not, Bool.and_eq_true, Bool.or_eq_true, Bool.and_eq_false_iff, Bool.or_eq_false_iff, Bool.not_eq_true', Bool.not_eq_false', Bool.not_true, Bool.not_false, Classical.not_not, Int.not_lt, Int.not_le, reduceCtorEq, not_true_eq_false, not_false_eq_true, decide_true, decide_false, Int.reduceEq, Int.reduceLT, Int.reduceLE] at h) <;> (try (exfalso; omega)))
    | (refine FnQ.ret (res1 Tryz.results33) (by simp only [Nat.reduceDiv, Nat.reduceMod, get_nthS, nthS_zero, nthS_succ]; rfl) ?_; (try dsimp only)))
  · rintro x tr htr hx
    have hC' : SlH H' 3 x (cesA (trimL l)) := .inl hx
    repeat' (first
     | (apply RK.free; rfl)
     | (apply RKy.pl; ((try simp only [go_sem, Nat.reduceDiv, Nat.reduceMod, Nat.reduceAdd, Nat.reduceSub, Nat.reduceEqDiff, Nat.reduceLeDiff, Nat.reduceLT, Nat.reduceMul, reduceIte, Nat.reducePow, Int.reduceEq]); rfl))
     | (apply RKp.op; ((try simp (disch := (first | omega | ((repeat (first | exact Ext.refl _ | assumption | apply Ext.push | (refine Ext.set ?_ (by (first | omega | (simp only [next_push, next_set, next_empty]; done) | (simp only [next_push, next_set, next_empty]; omega))) _))); done) | fail)) only [len_cellX lo' hC', ix_cellX lo' hC', ld_cellX lo' hC', fa_cellX lo' hC', lf_wX lo' hC', lf_aX lo' hC', lf_rX lo' hC', sl_hiX lo' hC', sl_loX lo' hC', sl_lohiX lo' hC', go_sem, Nat.reduceDiv, Nat.reduceMod, Nat.reduceAdd, Nat.reduceSub, Nat.reduceEqDiff, Nat.reduceLeDiff, Nat.reduceLT, Nat.reduceMul, reduceIte, Nat.reducePow, Int.reduceEq]); (first | rfl | (apply ite_ok; (first | assumption | rfl | omega | (refine ⟨?_, ?_⟩ <;> omega)); rfl))); rfl)
     | (apply RK.guard; rfl; rfl; (simp only [Nat.reduceDiv, Nat.reduceMod, get_nthS, nthS_zero, nthS_succ]; rfl))
     | apply RKg.tt
     | apply RKg.ff
     | (apply RKg.tf; rfl)
     | (apply RKg.ft; rfl)
     | (apply RKg.u; rfl)
     | ((fail_if_success (first | apply RKg.tt | apply RKg.ff | apply RKg.tf | apply RKg.ft | apply RKg.u)); refine RKg.split (fun h => ?_) (fun h => ?_) <;> (try rw [h]) <;> (try simp only [decide_eq_true_eq, decide_eq_false_iff_not, Bool.and_eq_true, Bool.or_eq_true, Bool.and_eq_false_iff, Bool.or_eq_false_iff, Bool.not_eq_true', Bool.not_eq_false', Bool.not_true, Bool.not_false, Classical.not_not, Int.not_lt, Int.not_le, reduceCtorEq, not_true_eq_false, not_false_eq_true, decide_true, decide_false, Int.reduceEq, Int.reduceLT, Int.reduceLE] at h) <;> (try (exfalso; omega)))
     | apply RK.nil
     | apply V.sq
     | apply V.bl
     | apply V.sc
     | apply V.skip
     | apply V.label
     | apply V.ret
     | apply V.exit
     | apply SeqQ.normal
     | apply SeqQ.ret
     | apply SeqQ.exit
     | apply BlockQ.normal
     | apply BlockQ.ret
     | apply BlockQ.here
     | (apply BlockQ.there; decide)
     | apply LoopS.ret
     | apply LoopS.exit
     | apply LoopF.ret
     | apply LoopF.exit
     | apply V.regK
     | (refine V.condT rfl ?_)
     | (refine V.condF rfl ?_)
     | (refine V.cond rfl (fun h => ?_) (fun h => ?_) <;> (try simp only [decide_eq_true_eq, decide_eq_false_iff_not, Bool.and_eq_true, Bool.or_eq_true, Bool.and_eq_false_iff, Bool.or_eq_false_iff, Bool.not_eq_true', Bool.not_eq_false', Bool.not_true, Bool.not_false, Classical.not_not, Int.not_lt, Int.not_le, reduceCtorEq, not_true_eq_false, not_false_eq_true, decide_true, decide_false, Int.reduceEq, Int.reduceLT, Int.reduceLE] at h) <;> (try (exfalso; omega)))
      | (refine FnQ.ret (res1 Tryz.results33) (by simp only [Nat.reduceDiv, Nat.reduceMod, get_nthS, nthS_zero, nthS_succ]; rfl) ?_; (try dsimp only)))
    rw [frzR_v]
theorem IsBlank_R (hA : SlH H 3 A (cesA l)) (hl : l.length < 2 ^ 40) : CallRo EZ ys lo 32 [rowA A wr] H (.v (.bool (decide (rowG l → (trimL l).length = 0 ∧ wr = false)))) := by
  refine WC.pureR rfl fun lo' H' hh => ?_
  have hA' := (hA.two (.inr ⟨[A, .v (.bool wr)], .inl (by simp)⟩) hh)
  have hA1 : SlH (H'.push (rblk A wr)) 3 A (cesA l) := (hA'.push _)
  refine WC.enter Tryz.func32 rfl (Nat.le_of_ble_eq_true rfl) (by simp only [Slots.of, Tryz.ntmps32, Nat.reduceAdd, Nat.reduceDiv, rows8P, row8]; rfl) ?_
  repeat' (first
   | (apply RK.free; rfl)
   | (apply RKy.pl; ((try simp only [go_sem, Nat.reduceDiv, Nat.reduceMod, Nat.reduceAdd, Nat.reduceSub, Nat.reduceEqDiff, Nat.reduceLeDiff, Nat.reduceLT, Nat.reduceMul, reduceIte, Nat.reducePow, Int.reduceEq]); rfl))
   | (apply RKp.op; ((try simp (disch := (first | omega | ((repeat (first | exact Ext.refl _ | assumption | apply Ext.push | (refine Ext.set ?_ (by (first | omega | (simp only [next_push, next_set, next_empty]; done) | (simp only [next_push, next_set, next_empty]; omega))) _))); done) | fail)) only [len_cellX lo' hA', ix_cellX lo' hA', ld_cellX lo' hA', fa_cellX lo' hA', lf_wX lo' hA', lf_aX lo' hA', lf_rX lo' hA', sl_hiX lo' hA', sl_loX lo' hA', sl_lohiX lo' hA', go_sem, Nat.reduceDiv, Nat.reduceMod, Nat.reduceAdd, Nat.reduceSub, Nat.reduceEqDiff, Nat.reduceLeDiff, Nat.reduceLT, Nat.reduceMul, reduceIte, Nat.reducePow, Int.reduceEq]); (first | rfl | (apply ite_ok; (first | assumption | rfl | omega | (refine ⟨?_, ?_⟩ <;> omega)); rfl))); rfl)
   | (apply RKp.call; ((first | apply May_R | apply Used_run) <;> (first | assumption | rfl | omega | (refine ⟨?_, ?_⟩ <;> omega))); rfl)
   | (apply RKp.callR; ((first | apply May_R | apply Used_run) <;> (first | assumption | rfl | omega | (refine ⟨?_, ?_⟩ <;> omega))); rfl; intro tr htr)
   | (apply RKp.callO; ((first | apply May_R | apply Used_run) <;> (first | assumption | rfl | omega | (refine ⟨?_, ?_⟩ <;> omega))); rfl; intro tr)
   | (apply RKp.callRE; ((first | apply May_R | apply Used_run) <;> (first | assumption | rfl | omega | (refine ⟨?_, ?_⟩ <;> omega))); (intro x; rfl))
   | (apply RKp.callE; ((first | apply May_R | apply Used_run) <;> (first | assumption | rfl | omega | (refine ⟨?_, ?_⟩ <;> omega))); (intro x; rfl))
   | (apply RK.guard; rfl; rfl; (simp only [Nat.reduceDiv, Nat.reduceMod, get_nthS, nthS_zero, nthS_succ]; rfl))
   | apply RKg.tt
   | apply RKg.ff
   | (apply RKg.tf; rfl)
   | (apply RKg.ft; rfl)
   | (apply RKg.u; rfl)
   | ((fail_if_success (first | apply RKg.tt | apply RKg.ff | apply RKg.tf | apply RKg.ft | apply RKg.u)); refine RKg.split (fun h => ?_) (fun h => ?_) <;> (try rw [h]) <;> (try simp only [decide_eq_true_eq, decide_eq_false_iff_not, Bool.and_eq_true, Bool.or_eq_true, Bool.and_eq_false_iff, Bool.or_eq_false_iff, Bool.not_eq_true', Bool.not_eq_false', Bool.not_true, Bool.not_false, Classical.not_not, Int.not_lt, Int.not_le, reduceCtorEq, not_true_eq_false, not_false_eq_true, decide_true, decide_false, Int.reduceEq, Int.reduceLT, Int.reduceLE] at h) <;> (try (exfalso; omega)))
   | apply RK.nil
   | apply V.sq
   | apply V.bl
   | apply V.sc
   | apply V.skip
   | apply V.label
   | apply V.ret
   | apply V.exit
   | apply SeqQ.normal
   | apply SeqQ.ret
   | apply SeqQ.exit
   | apply BlockQ.normal
   | apply BlockQ.ret
   | apply BlockQ.here
   | (apply BlockQ.there; decide)
   | apply LoopS.ret
   | apply LoopS.exit
   | apply LoopF.ret
   | apply LoopF.exit
   | apply V.regK
   | (refine V.condT rfl ?_)
   | (refine V.condF rfl ?_)
   | (refine V.cond rfl (fun h => ?_) (fun h => ?_) <;> (try simp only [decide_eq_true_eq, decide_eq_false_iff_not, Bool.and_eq_true, Bool.or_eq_true, Bool.and_eq_false_iff, Bool.or_eq_false_iff, Bool.not_eq_true', Bool.not_eq_false', Bool.not_true, Bool.not_false, Classical.not_not, Int.not_lt, Int.not_le, reduceCtorEq, not_true_eq_false, not_false_eq_true, decide_true, decide_false, Int.reduceEq, Int.reduceLT, Int.reduceLE] at h) <;> (try (exfalso; omega)))
    | (refine FnQ.ret (res1 Tryz.results32) (by simp only [Nat.reduceDiv, Nat.reduceMod, get_nthS, nthS_zero, nthS_succ]; rfl) ?_; (try dsimp only)))
  all_goals (rw [frzR_v]; congr 2; rw [Bool.eq_iff_iff]; simp_all)
theorem First_run (hA : SlH H 3 A (cesA l)) (hl : l.length < 2 ^ 40) (col : Int) (hc : -9223372036854775808 ≤ col ∧ col ≤ 9223372036854775807) : CallRo EZ ys lo 34 [rowA A wr, .v (.int .i64 col)] H (.v (.int .i64 (if rowG l ∧ l ≠ [] then (if (l.getD (min (max col 0) (l.length - 1)).toNat zeroC).w = 0 then min (max col 0) (l.length - 1) - 1 else min (max col 0) (l.length - 1)) else 0))) := by
  refine WC.pureR rfl fun lo' H' hh => ?_
  have hA' := (hA.two (.inr ⟨[A, .v (.bool wr)], .inl (by simp)⟩) hh)
  have hA1 : SlH (H'.push (rblk A wr)) 3 A (cesA l) := (hA'.push _)
  refine WC.enter Tryz.func34 rfl (Nat.le_of_ble_eq_true rfl) (by simp only [Slots.of, Tryz.ntmps34, Nat.reduceAdd, Nat.reduceDiv, rows8P, row8]; rfl) ?_
  repeat' (first
   | (apply RK.free; rfl)
   | (apply RKy.pl; ((try simp only [go_sem, Nat.reduceDiv, Nat.reduceMod, Nat.reduceAdd, Nat.reduceSub, Nat.reduceEqDiff, Nat.reduceLeDiff, Nat.reduceLT, Nat.reduceMul, reduceIte, Nat.reducePow, Int.reduceEq]); rfl))
   | (apply RKp.op; ((try simp (disch := (first | omega | ((repeat (first | exact Ext.refl _ | assumption | apply Ext.push | (refine Ext.set ?_ (by (first | omega | (simp only [next_push, next_set, next_empty]; done) | (simp only [next_push, next_set, next_empty]; omega))) _))); done) | fail)) only [len_cellX lo' hA', ix_cellX lo' hA', ld_cellX lo' hA', fa_cellX lo' hA', lf_wX lo' hA', lf_aX lo' hA', lf_rX lo' hA', sl_hiX lo' hA', sl_loX lo' hA', sl_lohiX lo' hA', go_sem, Nat.reduceDiv, Nat.reduceMod, Nat.reduceAdd, Nat.reduceSub, Nat.reduceEqDiff, Nat.reduceLeDiff, Nat.reduceLT, Nat.reduceMul, reduceIte, Nat.reducePow, Int.reduceEq]); (first | rfl | (apply ite_ok; (first | assumption | rfl | omega | (refine ⟨?_, ?_⟩ <;> omega)); rfl))); rfl)
   | (apply RKp.call; (apply May_R <;> (first | assumption | rfl | omega | (refine ⟨?_, ?_⟩ <;> omega))); rfl)
   | (apply RKp.callR; (apply May_R <;> (first | assumption | rfl | omega | (refine ⟨?_, ?_⟩ <;> omega))); rfl; intro tr htr)
   | (apply RKp.callO; (apply May_R <;> (first | assumption | rfl | omega | (refine ⟨?_, ?_⟩ <;> omega))); rfl; intro tr)
   | (apply RKp.callRE; (apply May_R <;> (first | assumption | rfl | omega | (refine ⟨?_, ?_⟩ <;> omega))); (intro x; rfl))
   | (apply RKp.callE; (apply May_R <;> (first | assumption | rfl | omega | (refine ⟨?_, ?_⟩ <;> omega))); (intro x; rfl))
   | (apply RK.guard; rfl; rfl; (simp only [Nat.reduceDiv, Nat.reduceMod, get_nthS, nthS_zero, nthS_succ]; rfl))
   | apply RKg.tt
   | apply RKg.ff
   | (apply RKg.tf; rfl)
   | (apply RKg.ft; rfl)
   | (apply RKg.u; rfl)
   | ((fail_if_success (first | apply RKg.tt | apply RKg.ff | apply RKg.tf | apply RKg.ft | apply RKg.u)); refine RKg.split (fun h => ?_) (fun h => ?_) <;> (try rw [h]) <;> (try simp only [decide_eq_true_eq, decide_eq_false_iff_not, Bool.and_eq_true, Bool.or_eq_true, Bool.and_eq_false_iff, Bool.or_eq_false_iff, Bool.not_eq_true', Bool.not_eq_false', Bool.not_true, Bool.not_false, Classical.not_not, Int.not_lt, Int.not_le, reduceCtorEq, not_true_eq_false, not_false_eq_true, decide_true, decide_false, Int.reduceEq, Int.reduceLT, Int.reduceLE] at h) <;> (try (exfalso; omega)))
   | apply RK.nil
   | apply V.sq
   | apply V.bl
   | apply V.sc
   | apply V.skip
   | apply V.label
   | apply V.ret
   | apply V.exit
   | apply SeqQ.normal
   | apply SeqQ.ret
   | apply SeqQ.exit
   | apply BlockQ.normal
   | apply BlockQ.ret
   | apply BlockQ.here
   | (apply BlockQ.there; decide)
   | apply LoopS.ret
   | apply LoopS.exit
   | apply LoopF.ret
   | apply LoopF.exit
   | apply V.regK
   | (refine V.condT rfl ?_)
   | (refine V.condF rfl ?_)
   | (refine V.cond rfl (fun h => ?_) (fun h => ?_) <;> (try simp only [decide_eq_true_eq, decide_eq_false_iff_not, Bool.and_eq_true, Bool.or_eq_true, Bool.and_eq_false_iff, Bool.or_eq_false_iff, Bool.not_eq_true', Bool.not_eq_false', Bool.not_true, Bool.not_false, Classical.not_not, Int.not_lt, Int.not_le, reduceCtorEq, not_true_eq_false, not_false_eq_true, decide_true, decide_false, Int.reduceEq, Int.reduceLT, Int.reduceLE] at h) <;> (try (exfalso; omega)))
    | (refine FnQ.ret (res1 Tryz.results34) (by simp only [Nat.reduceDiv, Nat.reduceMod, get_nthS, nthS_zero, nthS_succ]; rfl) ?_; (try dsimp only)))
  all_goals (rw [frzR_v]; congr 2; (have hne : l ≠ [] ↔ l.length ≠ 0 := by cases l <;> simp); (first | (rw [if_pos (by refine ⟨by assumption, hne.2 (by omega)⟩), if_pos h]; done) | (rw [if_pos (by refine ⟨by assumption, hne.2 (by omega)⟩), if_neg h]; done) | (rw [if_neg (by rintro ⟨e1, e2⟩; first | contradiction | (have := hne.1 e2; omega))]; done) | grind))
theorem refFirst_run (hA : SlH H 3 A (cesA l)) (hl : l.length < 2 ^ 40) (col : Int) (hc : -9223372036854775808 ≤ col ∧ col ≤ 9223372036854775807) : CallRo EZ ys lo 35 [rowA A wr, .v (.int .i64 col)] H (.v (.int .i64 (if 0 < max 0 (min col (l.length - 1)) ∧ max 0 (min col (l.length - 1)) < l.length ∧ (l.getD (max 0 (min col (l.length - 1))).toNat zeroC).w = 0 then max 0 (min col (l.length - 1)) - 1 else max 0 (min col (l.length - 1))))) := by
  refine WC.pureR rfl fun lo' H' hh => ?_
  have hA' := (hA.two (.inr ⟨[A, .v (.bool wr)], .inl (by simp)⟩) hh)
  have hA1 : SlH (H'.push (rblk A wr)) 3 A (cesA l) := (hA'.push _)
  refine WC.enter Tryz.func35 rfl (Nat.le_of_ble_eq_true rfl) (by simp only [Slots.of, Tryz.ntmps35, Nat.reduceAdd, Nat.reduceDiv, rows8P, row8]; rfl) ?_
  repeat' (first
   | (apply RK.free; rfl)
   | (apply RKy.pl; ((try simp only [go_sem, Nat.reduceDiv, Nat.reduceMod, Nat.reduceAdd, Nat.reduceSub, Nat.reduceEqDiff, Nat.reduceLeDiff, Nat.reduceLT, Nat.reduceMul, reduceIte, Nat.reducePow, Int.reduceEq]); rfl))
   | (apply RKp.op; ((try simp (disch := (first | omega | ((repeat (first | exact Ext.refl _ | assumption | apply Ext.push | (refine Ext.set ?_ (by (first | omega | (simp only [next_push, next_set, next_empty]; done) | (simp only [next_push, next_set, next_empty]; omega))) _))); done) | fail)) only [len_cellX lo' hA', ix_cellX lo' hA', ld_cellX lo' hA', fa_cellX lo' hA', lf_wX lo' hA', lf_aX lo' hA', lf_rX lo' hA', sl_hiX lo' hA', sl_loX lo' hA', sl_lohiX lo' hA', go_sem, Nat.reduceDiv, Nat.reduceMod, Nat.reduceAdd, Nat.reduceSub, Nat.reduceEqDiff, Nat.reduceLeDiff, Nat.reduceLT, Nat.reduceMul, reduceIte, Nat.reducePow, Int.reduceEq]); (first | rfl | (apply ite_ok; (first | assumption | rfl | omega | (refine ⟨?_, ?_⟩ <;> omega)); rfl))); rfl)
   | (apply RK.guard; rfl; rfl; (simp only [Nat.reduceDiv, Nat.reduceMod, get_nthS, nthS_zero, nthS_succ]; rfl))
   | apply RKg.tt
   | apply RKg.ff
   | (apply RKg.tf; rfl)
   | (apply RKg.ft; rfl)
   | (apply RKg.u; rfl)
   | ((fail_if_success (first | apply RKg.tt | apply RKg.ff | apply RKg.tf | apply RKg.ft | apply RKg.u)); refine RKg.split (fun h => ?_) (fun h => ?_) <;> (try rw [h]) <;> (try simp only [decide_eq_true_eq, decide_eq_false_iff_not, Bool.and_eq_true, Bool.or_eq_true, Bool.and_eq_false_iff, Bool.or_eq_false_iff, Bool.not_eq_true', Bool.not_eq_false', Bool.not_true, Bool.not_false, Classical.not_not, Int.not_lt, Int.not_le, reduceCtorEq, not_true_eq_false, not_false_eq_true, decide_true, decide_false, Int.reduceEq, Int.reduceLT, Int.reduceLE] at h) <;> (try (exfalso; omega)))
   | apply RK.nil
   | apply V.sq
   | apply V.bl
   | apply V.sc
   | apply V.skip
   | apply V.label
   | apply V.ret
   | apply V.exit
   | apply SeqQ.normal
   | apply SeqQ.ret
   | apply SeqQ.exit
   | apply BlockQ.normal
   | apply BlockQ.ret
   | apply BlockQ.here
   | (apply BlockQ.there; decide)
   | apply LoopS.ret
   | apply LoopS.exit
   | apply LoopF.ret
   | apply LoopF.exit
   | apply V.regK
   | (refine V.condT rfl ?_)
   | (refine V.condF rfl ?_)
   | (refine V.cond rfl (fun h => ?_) (fun h => ?_) <;> (try simp only [decide_eq_true_eq, decide_eq_false_iff_not, Bool.and_eq_true, Bool.or_eq_true, Bool.and_eq_false_iff, Bool.or_eq_false_iff, Bool.not_eq_true', Bool.not_eq_false', Bool.not_true, Bool.not_false, Classical.not_not, Int.not_lt, Int.not_le, reduceCtorEq, not_true_eq_false, not_false_eq_true, decide_true, decide_false, Int.reduceEq, Int.reduceLT, Int.reduceLE] at h) <;> (try (exfalso; omega)))
    | (refine FnQ.ret (res1 Tryz.results35) (by simp only [Nat.reduceDiv, Nat.reduceMod, get_nthS, nthS_zero, nthS_succ]; rfl) ?_; (try dsimp only)))
  all_goals (rw [frzR_v]; congr 2; grind)
end
end Go.Am

namespace Go.Am
open Go.Proofs
set_option maxRecDepth 8000
set_option maxHeartbeats 4000000
def overC (l : List Ce) (off : Nat) (new : List Ce) : List Ce := l.take off ++ new ++ l.drop (off + new.length)
theorem overE_ces (l : List Ce) (off : Nat) (new : List Ce) : overE (cesA l) off (cesA new) = cesA (overC l off new) := by simp [overE, overC, List.map_take, List.map_drop]
theorem copy_self (lo : Nat) {H : AHeap} {n e off len off' len' : Nat} {l : List Ce} (ty t' : TypeId) (hg : H.get n = some (cblk e l)) (h1 : off + len ≤ l.length) (h2 : off' + len' ≤ l.length) (hlo : lo ≤ n) :
    primL lo H (builtinA EZ .copy #[45, t'] ty [.os n e off len, .os n e off' len']) = some (.v (.int .i64 (min len' len : Nat)), H.set n (cblk e (overC l off ((l.drop off').take (min len' len)))), ⟨bitsOf [n], 2 ^ n, 0⟩) := by
  have hu : EZ.P.underlying 45 = some (.slice 61) := by kernel_rfl
  have hs : infoSize EZ.P 61 = some 3 := by kernel_rfl
  have hl : (((cesA l).drop off').take len').length = len' := by simp; omega
  show primL lo H (copyA EZ 45 (.os n e off len) (.os n e off' len')) = _
  simp only [copyA, hu, hs, if_true, primL_prim1, hg, Option.bind_some, sliceElems]
  rw [if_pos ⟨trivial, by rw [ces_len]; exact h2, by rfl⟩, Option.bind_some]
  simp only [hl]
  rw [if_pos ⟨trivial, by rfl, by rw [ces_len]; exact h1, trivial, .inr trivial⟩]
  simp only [Option.bind_some, effL_set, if_pos hlo]
  rw [List.take_take, Nat.min_eq_left (Nat.min_le_left len' len), ← List.map_drop, ← List.map_take, overE_ces]
theorem copy_two (lo : Nat) {H : AHeap} {n e off len m e' off' len' : Nat} {l l' : List Ce} (ty t' : TypeId) (hg : H.get n = some (cblk e l)) (hg' : H.get m = some (cblk e' l')) (hne : n ≠ m) (h1 : off + len ≤ l.length) (h2 : off' + len' ≤ l'.length) (hlo : lo ≤ n) :
    primL lo H (builtinA EZ .copy #[45, t'] ty [.os n e off len, .os m e' off' len']) = some (.v (.int .i64 (min len' len : Nat)), H.set n (cblk e (overC l off ((l'.drop off').take (min len' len)))), ⟨bitsOf [n, m], 2 ^ n, 0⟩) := by
  have hu : EZ.P.underlying 45 = some (.slice 61) := by kernel_rfl
  have hs : infoSize EZ.P 61 = some 3 := by kernel_rfl
  have hl : (((cesA l').drop off').take len').length = len' := by simp; omega
  show primL lo H (copyA EZ 45 (.os n e off len) (.os m e' off' len')) = _
  simp only [copyA, hu, hs, if_neg hne, primL_prim2, hg, hg', Option.bind_some, sliceElems]
  rw [if_pos ⟨trivial, by rw [ces_len]; exact h2, by rfl⟩, Option.bind_some]
  simp only [hl]
  rw [if_pos ⟨trivial, by rfl, by rw [ces_len]; exact h1, trivial, .inr trivial⟩]
  simp only [Option.bind_some, effL_set', if_pos hlo]
  rw [List.take_take, Nat.min_eq_left (Nat.min_le_left len' len), ← List.map_drop, ← List.map_take, overE_ces]
def zeros (n : Nat) : List Ce := List.replicate n zeroC
theorem mk_cell (lo : Nat) (H : AHeap) (n : Nat) (hn : n ≤ 300) : primL lo H (makeSliceA EZ 45 (.v (.int .i64 n)) (.v (.int .i64 n))) = some (.os H.next 0 0 n, H.push (cblk 0 (zeros n)), ⟨0, 2 ^ H.next, 0⟩) := by
  have hu : EZ.P.underlying 45 = some (.slice 61) := by kernel_rfl
  have hs : infoSize EZ.P 61 = some 3 := by kernel_rfl
  have hb : infoBytes EZ.P 61 = some 24 := by kernel_rfl
  have hz : zeroCells EZ.P 61 = some (ceA zeroC) := by kernel_rfl
  simp only [makeSliceA, hu, hs, hb, hz]
  rw [if_pos (by unfold roomMax; simp; omega)]
  have e : (zeros n).map (fun c => ceA c) = List.replicate n (ceA zeroC) := by simp [zeros]
  simp only [primL_prim0, Option.bind_some, effL_new, cblk, cesA, e, Int.toNat_natCast]; rfl
theorem and32 (n : Int) (h0 : 0 ≤ n) (h1 : n < 4294967296) : andI .u64 n 4294967295 = n := by
  obtain ⟨k, rfl⟩ : ∃ k : Nat, n = k := ⟨n.toNat, by omega⟩
  have e1 : (BitVec.ofInt 64 (k : Int)).toNat = k := by simp [BitVec.toNat_ofInt]; omega
  unfold andI
  show IntKind.u64.wrap ((BitVec.ofInt 64 (k : Int) &&& BitVec.ofInt 64 4294967295).toNat : Int) = k
  rw [BitVec.toNat_and, e1]
  have e2 : (BitVec.ofInt 64 4294967295).toNat = 2 ^ 32 - 1 := rfl
  rw [e2, Nat.and_two_pow_sub_one_eq_mod, Nat.mod_eq_of_lt (by omega)]
  exact IntWalk.u64_in _ (by omega)
theorem shr32 (n : Int) (h0 : 0 ≤ n) (h1 : n < 4294967296) : shrI .u64 n 32 = 0 := by
  show n.fdiv (2 ^ 32) = 0
  rw [Int.fdiv_eq_ediv_of_nonneg _ (by decide)]
  omega
theorem wrap_u64 (x : Int) (h1 : 0 ≤ x) (h2 : x ≤ 18446744073709551615) : IntKind.u64.wrap x = x := IntWalk.u64_in x ⟨h1, h2⟩
section
variable {ys : List (Nat × LRec)} {lo : Nat} {H : AHeap} {A B : AV} {l m : List Ce} {wr wr' : Bool}
theorem Mul64_run (n : Int) (h0 : 0 ≤ n) (h1 : n < 4294967296) : CallR EZ ys lo 122 [.v (.int .u64 1), .v (.int .u64 n)] H (.tup [.v (.int .u64 0), .v (.int .u64 n)]) H ⟨0, 0, 0⟩ := by
  refine WC.pure' rfl rfl ?_ _ _ _
  refine WC.enter Tryz.func122 rfl (Nat.le_of_ble_eq_true rfl) (by simp only [Slots.of, Tryz.ntmps122, Nat.reduceAdd, Nat.reduceDiv, rows8P, row8]; rfl) ?_
  repeat' (first
   | (apply RK.free; rfl)
   | (apply RKy.pl; ((try simp only [go_sem, Nat.reduceDiv, Nat.reduceMod, Nat.reduceAdd, Nat.reduceSub, Nat.reduceEqDiff, Nat.reduceLeDiff, Nat.reduceLT, Nat.reduceMul, reduceIte, Nat.reducePow, Int.reduceEq]); rfl))
   | (apply RKp.op; ((try simp (disch := (first | omega | ((repeat (first | exact Ext.refl _ | assumption | apply Ext.push | (refine Ext.set ?_ (by (first | omega | (simp only [next_push, next_set, next_empty]; done) | (simp only [next_push, next_set, next_empty]; omega))) _))); done) | fail)) only [bin_and, bin_shr, and32, shr32, wrap_u64, Int.one_mul, Int.zero_mul, Int.zero_add, Int.add_zero, go_sem, Nat.reduceDiv, Nat.reduceMod, Nat.reduceAdd, Nat.reduceSub, Nat.reduceEqDiff, Nat.reduceLeDiff, Nat.reduceLT, Nat.reduceMul, reduceIte, Nat.reducePow, Int.reduceEq]); (first | rfl | (apply ite_ok; (first | assumption | rfl | omega | (refine ⟨?_, ?_⟩ <;> omega)); rfl))); rfl)
   | (apply RK.guard; rfl; rfl; (simp only [Nat.reduceDiv, Nat.reduceMod, get_nthS, nthS_zero, nthS_succ]; rfl))
   | apply RKg.tt
   | apply RKg.ff
   | (apply RKg.tf; rfl)
   | (apply RKg.ft; rfl)
   | (apply RKg.u; rfl)
   | ((fail_if_success (first | apply RKg.tt | apply RKg.ff | apply RKg.tf | apply RKg.ft | apply RKg.u)); refine RKg.split (fun h => ?_) (fun h => ?_) <;> (try rw [h]) <;> (try simp only [decide_eq_true_eq, decide_eq_false_iff_not, Bool.and_eq_true, Bool.or_eq_true, Bool.and_eq_false_iff, Bool.or_eq_false_iff, Bool.not_eq_true', Bool.not_eq_false', Bool.not_true, Bool.not_false, Classical.not_not, Int.not_lt, Int.not_le, reduceCtorEq, not_true_eq_false, not_false_eq_true, decide_true, decide_false, Int.reduceEq, Int.reduceLT, Int.reduceLE] at h) <;> (try (exfalso; omega)))
   | apply RK.nil
   | apply V.sq
   | apply V.bl
   | apply V.sc
   | apply V.skip
   | apply V.label
   | apply V.ret
   | apply V.exit
   | apply SeqQ.normal
   | apply SeqQ.ret
   | apply SeqQ.exit
   | apply BlockQ.normal
   | apply BlockQ.ret
   | apply BlockQ.here
   | (apply BlockQ.there; decide)
   | apply LoopS.ret
   | apply LoopS.exit
   | apply LoopF.ret
   | apply LoopF.exit
   | apply V.regK
   | (refine V.condT rfl ?_)
   | (refine V.condF rfl ?_)
   | (refine V.cond rfl (fun h => ?_) (fun h => ?_) <;> (try simp only [decide_eq_true_eq, decide_eq_false_iff_not, Bool.and_eq_true, Bool.or_eq_true, Bool.and_eq_false_iff, Bool.or_eq_false_iff, Bool.not_eq_true', Bool.not_eq_false', Bool.not_true, Bool.not_false, Classical.not_not, Int.not_lt, Int.not_le, reduceCtorEq, not_true_eq_false, not_false_eq_true, decide_true, decide_false, Int.reduceEq, Int.reduceLT, Int.reduceLE] at h) <;> (try (exfalso; omega)))
    | (refine FnQ.ret (res2 Tryz.results122) (by simp only [Nat.reduceDiv, Nat.reduceMod, get_nthS, nthS_zero, nthS_succ]; rfl) ?_; (try dsimp only)))
  rfl
theorem Mul_run (n : Int) (h0 : 0 ≤ n) (h1 : n < 4294967296) : CallR EZ ys lo 93 [.v (.int .u64 1), .v (.int .u64 n)] H (.tup [.v (.int .u64 0), .v (.int .u64 n)]) H ⟨0, 0, 0⟩ := by
  refine WC.pure' rfl rfl ?_ _ _ _
  refine WC.enter Tryz.func93 rfl (Nat.le_of_ble_eq_true rfl) (by simp only [Slots.of, Tryz.ntmps93, Nat.reduceAdd, Nat.reduceDiv, rows8P, row8]; rfl) ?_
  repeat' (first
   | (apply RK.free; rfl)
   | (apply RKy.pl; ((try simp only [go_sem, Nat.reduceDiv, Nat.reduceMod, Nat.reduceAdd, Nat.reduceSub, Nat.reduceEqDiff, Nat.reduceLeDiff, Nat.reduceLT, Nat.reduceMul, reduceIte, Nat.reducePow, Int.reduceEq]); rfl))
   | (apply RKp.op; ((try simp (disch := (first | omega | ((repeat (first | exact Ext.refl _ | assumption | apply Ext.push | (refine Ext.set ?_ (by (first | omega | (simp only [next_push, next_set, next_empty]; done) | (simp only [next_push, next_set, next_empty]; omega))) _))); done) | fail)) only [go_sem, Nat.reduceDiv, Nat.reduceMod, Nat.reduceAdd, Nat.reduceSub, Nat.reduceEqDiff, Nat.reduceLeDiff, Nat.reduceLT, Nat.reduceMul, reduceIte, Nat.reducePow, Int.reduceEq]); (first | rfl | (apply ite_ok; (first | assumption | rfl | omega | (refine ⟨?_, ?_⟩ <;> omega)); rfl))); rfl)
   | (apply RKp.call; (apply Mul64_run <;> (first | assumption | rfl | omega | (refine ⟨?_, ?_⟩ <;> omega))); rfl)
   | (apply RKp.callR; (apply Mul64_run <;> (first | assumption | rfl | omega | (refine ⟨?_, ?_⟩ <;> omega))); rfl; intro tr htr)
   | (apply RKp.callO; (apply Mul64_run <;> (first | assumption | rfl | omega | (refine ⟨?_, ?_⟩ <;> omega))); rfl; intro tr)
   | (apply RKp.callRE; (apply Mul64_run <;> (first | assumption | rfl | omega | (refine ⟨?_, ?_⟩ <;> omega))); (intro x; rfl))
   | (apply RKp.callE; (apply Mul64_run <;> (first | assumption | rfl | omega | (refine ⟨?_, ?_⟩ <;> omega))); (intro x; rfl))
   | (apply RK.guard; rfl; rfl; (simp only [Nat.reduceDiv, Nat.reduceMod, get_nthS, nthS_zero, nthS_succ]; rfl))
   | apply RKg.tt
   | apply RKg.ff
   | (apply RKg.tf; rfl)
   | (apply RKg.ft; rfl)
   | (apply RKg.u; rfl)
   | ((fail_if_success (first | apply RKg.tt | apply RKg.ff | apply RKg.tf | apply RKg.ft | apply RKg.u)); refine RKg.split (fun h => ?_) (fun h => ?_) <;> (try rw [h]) <;> (try simp only [decide_eq_true_eq, decide_eq_false_iff_not, Bool.and_eq_true, Bool.or_eq_true, Bool.and_eq_false_iff, Bool.or_eq_false_iff, Bool.not_eq_true', Bool.not_eq_false', Bool.not_true, Bool.not_false, Classical.not_not, Int.not_lt, Int.not_le, reduceCtorEq, not_true_eq_false, not_false_eq_true, decide_true, decide_false, Int.reduceEq, Int.reduceLT, Int.reduceLE] at h) <;> (try (exfalso; omega)))
   | apply RK.nil
   | apply V.sq
   | apply V.bl
   | apply V.sc
   | apply V.skip
   | apply V.label
   | apply V.ret
   | apply V.exit
   | apply SeqQ.normal
   | apply SeqQ.ret
   | apply SeqQ.exit
   | apply BlockQ.normal
   | apply BlockQ.ret
   | apply BlockQ.here
   | (apply BlockQ.there; decide)
   | apply LoopS.ret
   | apply LoopS.exit
   | apply LoopF.ret
   | apply LoopF.exit
   | apply V.regK
   | (refine V.condT rfl ?_)
   | (refine V.condF rfl ?_)
   | (refine V.cond rfl (fun h => ?_) (fun h => ?_) <;> (try simp only [decide_eq_true_eq, decide_eq_false_iff_not, Bool.and_eq_true, Bool.or_eq_true, Bool.and_eq_false_iff, Bool.or_eq_false_iff, Bool.not_eq_true', Bool.not_eq_false', Bool.not_true, Bool.not_false, Classical.not_not, Int.not_lt, Int.not_le, reduceCtorEq, not_true_eq_false, not_false_eq_true, decide_true, decide_false, Int.reduceEq, Int.reduceLT, Int.reduceLE] at h) <;> (try (exfalso; omega)))
    | (refine FnQ.ret (res2 Tryz.results93) (by simp only [Nat.reduceDiv, Nat.reduceMod, get_nthS, nthS_zero, nthS_succ]; rfl) ?_; (try dsimp only)))
  rfl
theorem Repeat_run (k n : Nat) (hk : k < H.next) (hg : H.get k = some (cblk 0 [blankC])) (hn : n ≤ 300) : CallRo EZ ys lo 69 [.os k 0 0 1, .v (.int .i64 n)] H (.sl 3 (cesA (blanks n))) := by
  refine WC.pureR rfl fun lo' H' hh => ?_
  rcases hh with ⟨hlo, rfl⟩ | ⟨_, _, hnf⟩
  · have hgx : ∀ b, (H'.push b).get k = some (cblk 0 [blankC]) := fun b => by rw [get_push, if_neg (by omega)]; exact hg
    have hcp := copy_two lo' (H := H'.push (cblk 0 (zeros n))) (n := H'.next) (e := 0) (off := 0) (len := n) (m := k) (e' := 0) (off' := 0) (len' := 1) (l := zeros n) (l' := [blankC]) 3 45 (by rw [get_push, if_pos rfl]) (hgx _) (by omega) (by simp [zeros]) (by simp) (by omega)
    have hmk := fun H => mk_cell lo' H n hn
    refine WC.enter Tryz.func69 rfl (Nat.le_of_ble_eq_true rfl) (by simp only [Slots.of, Tryz.ntmps69, Nat.reduceAdd, Nat.reduceDiv, rows8P, row8]; rfl) ?_
    repeat' (first
     | (apply RK.free; rfl)
     | (apply RKy.pl; ((try simp only [go_sem, Nat.reduceDiv, Nat.reduceMod, Nat.reduceAdd, Nat.reduceSub, Nat.reduceEqDiff, Nat.reduceLeDiff, Nat.reduceLT, Nat.reduceMul, reduceIte, Nat.reducePow, Int.reduceEq]); rfl))
     | (apply RKp.op; ((try simp (disch := (first | omega | ((repeat (first | exact Ext.refl _ | assumption | apply Ext.push | (refine Ext.set ?_ (by (first | omega | (simp only [next_push, next_set, next_empty]; done) | (simp only [next_push, next_set, next_empty]; omega))) _))); done) | fail)) only [wrap_u64, plan_makeSlice, hmk, hcp, hg, go_sem, Nat.reduceDiv, Nat.reduceMod, Nat.reduceAdd, Nat.reduceSub, Nat.reduceEqDiff, Nat.reduceLeDiff, Nat.reduceLT, Nat.reduceMul, reduceIte, Nat.reducePow, Int.reduceEq]); (first | rfl | (apply ite_ok; (first | assumption | rfl | omega | (refine ⟨?_, ?_⟩ <;> omega)); rfl))); rfl)
     | (apply RKp.call; (apply Mul_run <;> (first | assumption | rfl | omega | (refine ⟨?_, ?_⟩ <;> omega))); rfl)
     | (apply RKp.callR; (apply Mul_run <;> (first | assumption | rfl | omega | (refine ⟨?_, ?_⟩ <;> omega))); rfl; intro tr htr)
     | (apply RKp.callO; (apply Mul_run <;> (first | assumption | rfl | omega | (refine ⟨?_, ?_⟩ <;> omega))); rfl; intro tr)
     | (apply RKp.callRE; (apply Mul_run <;> (first | assumption | rfl | omega | (refine ⟨?_, ?_⟩ <;> omega))); (intro x; rfl))
     | (apply RKp.callE; (apply Mul_run <;> (first | assumption | rfl | omega | (refine ⟨?_, ?_⟩ <;> omega))); (intro x; rfl))
     | (apply RK.guard; rfl; rfl; (simp only [Nat.reduceDiv, Nat.reduceMod, get_nthS, nthS_zero, nthS_succ]; rfl))
     | apply RKg.tt
     | apply RKg.ff
     | (apply RKg.tf; rfl)
     | (apply RKg.ft; rfl)
     | (apply RKg.u; rfl)
     | ((fail_if_success (first | apply RKg.tt | apply RKg.ff | apply RKg.tf | apply RKg.ft | apply RKg.u)); refine RKg.split (fun h => ?_) (fun h => ?_) <;> (try rw [h]) <;> (try simp only [decide_eq_true_eq, decide_eq_false_iff_not, Bool.and_eq_true, Bool.or_eq_true, Bool.and_eq_false_iff, Bool.or_eq_false_iff, Bool.not_eq_true', Bool.not_eq_false', Bool.not_true, Bool.not_false, Classical.not_not, Int.not_lt, Int.not_le, reduceCtorEq, not_true_eq_false, not_false_eq_true, decide_true, decide_false, Int.reduceEq, Int.reduceLT, Int.reduceLE] at h) <;> (try (exfalso; omega)))
     | apply RK.nil
     | apply V.sq
     | apply V.bl
     | apply V.sc
     | apply V.skip
     | apply V.label
     | apply V.ret
     | apply V.exit
     | apply SeqQ.normal
     | apply SeqQ.ret
     | apply SeqQ.exit
     | apply BlockQ.normal
     | apply BlockQ.ret
     | apply BlockQ.here
     | (apply BlockQ.there; decide)
     | apply LoopS.ret
     | apply LoopS.exit
     | apply LoopF.ret
     | apply LoopF.exit
     | apply V.regK
      | (refine V.regdK (by kernel_rfl) ?_)
     | (refine DrawK.mk ?_ ?_; (focus (simp only [List.reverse_cons, List.reverse_nil, List.nil_append, List.cons_append]; decide +kernel)))
     | (apply DrawK.k3; (simp only [List.reverse_cons, List.reverse_nil, List.nil_append, List.cons_append]; rfl); (focus ((repeat (first | exact Kinds3.nil | apply Kinds3.z | (apply Kinds3.ro; (focus ((first | exact bits0 | (refine bits1 ?_; (first | omega | (simp only [next_push, next_set, next_empty]; done) | (simp only [next_push, next_set, next_empty]; omega))) | (refine rd_lt hA' _ ?_; (first | omega | (simp only [next_push, next_set, next_empty]; done) | (simp only [next_push, next_set, next_empty]; omega))) | (refine rd_lt hB' _ ?_; (first | omega | (simp only [next_push, next_set, next_empty]; done) | (simp only [next_push, next_set, next_empty]; omega))) | (refine rd_lt hC' _ ?_; (first | omega | (simp only [next_push, next_set, next_empty]; done) | (simp only [next_push, next_set, next_empty]; omega)))); done))) | (apply Kinds3.rd; (focus ((first | exact bits0 | (refine bits1 ?_; (first | omega | (simp only [next_push, next_set, next_empty]; done) | (simp only [next_push, next_set, next_empty]; omega))) | (refine rd_lt hA' _ ?_; (first | omega | (simp only [next_push, next_set, next_empty]; done) | (simp only [next_push, next_set, next_empty]; omega))) | (refine rd_lt hB' _ ?_; (first | omega | (simp only [next_push, next_set, next_empty]; done) | (simp only [next_push, next_set, next_empty]; omega))) | (refine rd_lt hC' _ ?_; (first | omega | (simp only [next_push, next_set, next_empty]; done) | (simp only [next_push, next_set, next_empty]; omega)))); done))) | (apply Kinds3.nw 0; (focus (first | omega | (simp only [next_push, next_set, next_empty]; done) | (simp only [next_push, next_set, next_empty]; omega))); (focus ((first | exact bits0 | (refine bits1 ?_; (first | omega | (simp only [next_push, next_set, next_empty]; done) | (simp only [next_push, next_set, next_empty]; omega))) | (refine rd_lt hA' _ ?_; (first | omega | (simp only [next_push, next_set, next_empty]; done) | (simp only [next_push, next_set, next_empty]; omega))) | (refine rd_lt hB' _ ?_; (first | omega | (simp only [next_push, next_set, next_empty]; done) | (simp only [next_push, next_set, next_empty]; omega))) | (refine rd_lt hC' _ ?_; (first | omega | (simp only [next_push, next_set, next_empty]; done) | (simp only [next_push, next_set, next_empty]; omega)))); done))) | (apply Kinds3.nw 1; (focus (first | omega | (simp only [next_push, next_set, next_empty]; done) | (simp only [next_push, next_set, next_empty]; omega))); (focus ((first | exact bits0 | (refine bits1 ?_; (first | omega | (simp only [next_push, next_set, next_empty]; done) | (simp only [next_push, next_set, next_empty]; omega))) | (refine rd_lt hA' _ ?_; (first | omega | (simp only [next_push, next_set, next_empty]; done) | (simp only [next_push, next_set, next_empty]; omega))) | (refine rd_lt hB' _ ?_; (first | omega | (simp only [next_push, next_set, next_empty]; done) | (simp only [next_push, next_set, next_empty]; omega))) | (refine rd_lt hC' _ ?_; (first | omega | (simp only [next_push, next_set, next_empty]; done) | (simp only [next_push, next_set, next_empty]; omega)))); done))) | (apply Kinds3.nw 2; (focus (first | omega | (simp only [next_push, next_set, next_empty]; done) | (simp only [next_push, next_set, next_empty]; omega))); (focus ((first | exact bits0 | (refine bits1 ?_; (first | omega | (simp only [next_push, next_set, next_empty]; done) | (simp only [next_push, next_set, next_empty]; omega))) | (refine rd_lt hA' _ ?_; (first | omega | (simp only [next_push, next_set, next_empty]; done) | (simp only [next_push, next_set, next_empty]; omega))) | (refine rd_lt hB' _ ?_; (first | omega | (simp only [next_push, next_set, next_empty]; done) | (simp only [next_push, next_set, next_empty]; omega))) | (refine rd_lt hC' _ ?_; (first | omega | (simp only [next_push, next_set, next_empty]; done) | (simp only [next_push, next_set, next_empty]; omega)))); done))) | (apply Kinds3.ra; (focus (first | exact RoT.zero | exact RoT.rd | exact RoT.all | exact RoT.rdTr _ | assumption))) | apply Kinds3.any)); done)); decide +kernel)
     | (refine V.condT rfl ?_)
     | (refine V.condF rfl ?_)
     | (refine V.cond rfl (fun h => ?_) (fun h => ?_) <;> (try simp only [decide_eq_true_eq, decide_eq_false_iff_not, Bool.and_eq_true, Bool.or_eq_true, Bool.and_eq_false_iff, Bool.or_eq_false_iff, Bool.not_eq_true', Bool.not_eq_false', Bool.not_true, Bool.not_false, Classical.not_not, Int.not_lt, Int.not_le, reduceCtorEq, not_true_eq_false, not_false_eq_true, decide_true, decide_false, Int.reduceEq, Int.reduceLT, Int.reduceLE] at h) <;> (try (exfalso; omega)))
      | (refine FnQ.ret (res1 Tryz.results69) (by simp only [Nat.reduceDiv, Nat.reduceMod, get_nthS, nthS_zero, nthS_succ]; rfl) ?_; (try dsimp only)))
    apply V.lpS [8, 34, 35, 36, 37, 38, 39, 40, 41, 42, 43, 44, 45, 46] (fun k xs H2 => ∃ (i : Nat) (g : _), xs = .v (.int .i64 i) :: g ∧ k = n - i ∧ i ≤ n ∧ (0 < n → 0 < i) ∧ H'.next < H2.next ∧ H2.get H'.next = some (cblk 0 (blanks i ++ zeros (n - i)))) (n - min 1 n)
    focus (intro xs; simp only [putMany, set2, Nat.reduceAdd, Nat.reduceDiv, Nat.reduceMod, nth_zero, nth_succ, List.set_cons_zero, List.set_cons_succ]; rfl)
    focus (first | rfl | simp only [readMany, nth_zero, nth_succ, Nat.reduceDiv, Nat.reduceMod])
    · refine ⟨min 1 n, _, rfl, by omega, by omega, by omega, by (first | omega | (simp only [next_push, next_set, next_empty]; done) | (simp only [next_push, next_set, next_empty]; omega)), ?_⟩
      rw [get_push, if_pos rfl]
      congr 2
      rcases Nat.eq_zero_or_pos n with h0 | h0
      · subst h0; rfl
      · obtain ⟨j, rfl⟩ : ∃ j, n = j + 1 := ⟨n - 1, by omega⟩
        rw [Nat.min_eq_left (by omega)]
        simp [overC, zeros, blanks, List.replicate_succ]
    · rintro k' xs H2 ⟨i, g, rfl, rfl, hi, hp, hn2, g0⟩
      have hlen : (blanks i ++ zeros (n - i)).length = n := by simp [blanks, zeros]; omega
      have hsl : SlH H2 3 (.os H'.next 0 0 n) (cesA (blanks i ++ zeros (n - i))) := .inr ⟨H'.next, 0, 0, _, by rw [ces_len, hlen], hn2, g0, rfl, rfl, rfl, by simp only [Nat.zero_add, Nat.le_refl], by simp only [List.drop_zero, List.take_length]⟩
      have s1 := sl_lo lo' hsl .i64 i (by omega) (by omega)
      have s2 := sl_hi lo' hsl .i64 i (by omega) (by omega)
      rw [ces_len, hlen] at s1
      simp only [cutA, Int.toNat_natCast, Nat.zero_add, Nat.add_zero, Nat.sub_zero] at s1 s2
      have hcp := copy_self lo' (off := i) (len := n - i) (off' := 0) (len' := i) 3 45 g0 (by omega) (by omega) (by omega)
      have hln : (cesA (blanks i ++ zeros (n - i))).length = n := by rw [ces_len, hlen]
      repeat' (first
       | (apply RK.free; rfl)
       | (apply RKy.pl; ((try simp only [go_sem, Nat.reduceDiv, Nat.reduceMod, Nat.reduceAdd, Nat.reduceSub, Nat.reduceEqDiff, Nat.reduceLeDiff, Nat.reduceLT, Nat.reduceMul, reduceIte, Nat.reducePow, Int.reduceEq]); rfl))
       | (apply RKp.op; ((try simp (disch := (first | omega | ((repeat (first | exact Ext.refl _ | assumption | apply Ext.push | (refine Ext.set ?_ (by (first | omega | (simp only [next_push, next_set, next_empty]; done) | (simp only [next_push, next_set, next_empty]; omega))) _))); done) | fail)) only [s1, s2, hcp, g0, hln, List.length_take, Nat.min_self, go_sem, Nat.reduceDiv, Nat.reduceMod, Nat.reduceAdd, Nat.reduceSub, Nat.reduceEqDiff, Nat.reduceLeDiff, Nat.reduceLT, Nat.reduceMul, reduceIte, Nat.reducePow, Int.reduceEq]); (first | rfl | (apply ite_ok; (first | assumption | rfl | omega | (refine ⟨?_, ?_⟩ <;> omega)); rfl))); rfl)
       | (apply RK.guard; rfl; rfl; (simp only [Nat.reduceDiv, Nat.reduceMod, get_nthS, nthS_zero, nthS_succ]; rfl))
       | apply RKg.tt
       | apply RKg.ff
       | (apply RKg.tf; rfl)
       | (apply RKg.ft; rfl)
       | (apply RKg.u; rfl)
       | ((fail_if_success (first | apply RKg.tt | apply RKg.ff | apply RKg.tf | apply RKg.ft | apply RKg.u)); refine RKg.split (fun h => ?_) (fun h => ?_) <;> (try rw [h]) <;> (try simp only [decide_eq_true_eq, decide_eq_false_iff_not, Bool.and_eq_true, Bool.or_eq_true, Bool.and_eq_false_iff, Bool.or_eq_false_iff, Bool.not_eq_true', Bool.not_eq_false', Bool.not_true, Bool.not_false, Classical.not_not, Int.not_lt, Int.not_le, reduceCtorEq, not_true_eq_false, not_false_eq_true, decide_true, decide_false, Int.reduceEq, Int.reduceLT, Int.reduceLE] at h) <;> (try (exfalso; omega)))
       | apply RK.nil
       | apply V.sq
       | apply V.bl
       | apply V.sc
       | apply V.skip
       | apply V.label
       | apply V.ret
       | apply V.exit
       | apply SeqQ.normal
       | apply SeqQ.ret
       | apply SeqQ.exit
       | apply BlockQ.normal
       | apply BlockQ.ret
       | apply BlockQ.here
       | (apply BlockQ.there; decide)
       | apply LoopS.ret
       | apply LoopS.exit
       | apply LoopF.ret
       | apply LoopF.exit
       | apply V.regK
        | (refine V.regdK (by kernel_rfl) ?_)
       | (refine DrawK.mk ?_ ?_; (focus (simp only [List.reverse_cons, List.reverse_nil, List.nil_append, List.cons_append]; decide +kernel)))
       | (apply DrawK.k3; (simp only [List.reverse_cons, List.reverse_nil, List.nil_append, List.cons_append]; rfl); (focus ((repeat (first | exact Kinds3.nil | apply Kinds3.z | (apply Kinds3.ro; (focus ((first | exact bits0 | (refine bits1 ?_; (first | omega | (simp only [next_push, next_set, next_empty]; done) | (simp only [next_push, next_set, next_empty]; omega))) | (refine rd_lt hA' _ ?_; (first | omega | (simp only [next_push, next_set, next_empty]; done) | (simp only [next_push, next_set, next_empty]; omega))) | (refine rd_lt hB' _ ?_; (first | omega | (simp only [next_push, next_set, next_empty]; done) | (simp only [next_push, next_set, next_empty]; omega))) | (refine rd_lt hC' _ ?_; (first | omega | (simp only [next_push, next_set, next_empty]; done) | (simp only [next_push, next_set, next_empty]; omega)))); done))) | (apply Kinds3.rd; (focus ((first | exact bits0 | (refine bits1 ?_; (first | omega | (simp only [next_push, next_set, next_empty]; done) | (simp only [next_push, next_set, next_empty]; omega))) | (refine rd_lt hA' _ ?_; (first | omega | (simp only [next_push, next_set, next_empty]; done) | (simp only [next_push, next_set, next_empty]; omega))) | (refine rd_lt hB' _ ?_; (first | omega | (simp only [next_push, next_set, next_empty]; done) | (simp only [next_push, next_set, next_empty]; omega))) | (refine rd_lt hC' _ ?_; (first | omega | (simp only [next_push, next_set, next_empty]; done) | (simp only [next_push, next_set, next_empty]; omega)))); done))) | (apply Kinds3.nw 0; (focus (first | omega | (simp only [next_push, next_set, next_empty]; done) | (simp only [next_push, next_set, next_empty]; omega))); (focus ((first | exact bits0 | (refine bits1 ?_; (first | omega | (simp only [next_push, next_set, next_empty]; done) | (simp only [next_push, next_set, next_empty]; omega))) | (refine rd_lt hA' _ ?_; (first | omega | (simp only [next_push, next_set, next_empty]; done) | (simp only [next_push, next_set, next_empty]; omega))) | (refine rd_lt hB' _ ?_; (first | omega | (simp only [next_push, next_set, next_empty]; done) | (simp only [next_push, next_set, next_empty]; omega))) | (refine rd_lt hC' _ ?_; (first | omega | (simp only [next_push, next_set, next_empty]; done) | (simp only [next_push, next_set, next_empty]; omega)))); done))) | (apply Kinds3.nw 1; (focus (first | omega | (simp only [next_push, next_set, next_empty]; done) | (simp only [next_push, next_set, next_empty]; omega))); (focus ((first | exact bits0 | (refine bits1 ?_; (first | omega | (simp only [next_push, next_set, next_empty]; done) | (simp only [next_push, next_set, next_empty]; omega))) | (refine rd_lt hA' _ ?_; (first | omega | (simp only [next_push, next_set, next_empty]; done) | (simp only [next_push, next_set, next_empty]; omega))) | (refine rd_lt hB' _ ?_; (first | omega | (simp only [next_push, next_set, next_empty]; done) | (simp only [next_push, next_set, next_empty]; omega))) | (refine rd_lt hC' _ ?_; (first | omega | (simp only [next_push, next_set, next_empty]; done) | (simp only [next_push, next_set, next_empty]; omega)))); done))) | (apply Kinds3.nw 2; (focus (first | omega | (simp only [next_push, next_set, next_empty]; done) | (simp only [next_push, next_set, next_empty]; omega))); (focus ((first | exact bits0 | (refine bits1 ?_; (first | omega | (simp only [next_push, next_set, next_empty]; done) | (simp only [next_push, next_set, next_empty]; omega))) | (refine rd_lt hA' _ ?_; (first | omega | (simp only [next_push, next_set, next_empty]; done) | (simp only [next_push, next_set, next_empty]; omega))) | (refine rd_lt hB' _ ?_; (first | omega | (simp only [next_push, next_set, next_empty]; done) | (simp only [next_push, next_set, next_empty]; omega))) | (refine rd_lt hC' _ ?_; (first | omega | (simp only [next_push, next_set, next_empty]; done) | (simp only [next_push, next_set, next_empty]; omega)))); done))) | (apply Kinds3.ra; (focus (first | exact RoT.zero | exact RoT.rd | exact RoT.all | exact RoT.rdTr _ | assumption))) | apply Kinds3.any)); done)); decide +kernel)
       | (refine V.condT rfl ?_)
       | (refine V.condF rfl ?_)
       | (refine V.cond rfl (fun h => ?_) (fun h => ?_) <;> (try simp only [decide_eq_true_eq, decide_eq_false_iff_not, Bool.and_eq_true, Bool.or_eq_true, Bool.and_eq_false_iff, Bool.or_eq_false_iff, Bool.not_eq_true', Bool.not_eq_false', Bool.not_true, Bool.not_false, Classical.not_not, Int.not_lt, Int.not_le, reduceCtorEq, not_true_eq_false, not_false_eq_true, decide_true, decide_false, Int.reduceEq, Int.reduceLT, Int.reduceLE] at h) <;> (try (exfalso; omega)))
        | (refine FnQ.ret (res1 Tryz.results69) (by simp only [Nat.reduceDiv, Nat.reduceMod, get_nthS, nthS_zero, nthS_succ]; rfl) ?_; (try dsimp only)))
      · refine LoopS.again (n - (i + min i (n - i))) (by rfl) (by omega) ⟨i + min i (n - i), _, by rw [show ((i + min i (n - i) : Nat) : Int) = (i : Int) + ((min i (n - i) : Nat) : Int) by omega]; rfl, rfl, by omega, by omega, by (first | omega | (simp only [next_push, next_set, next_empty]; done) | (simp only [next_push, next_set, next_empty]; omega)), ?_⟩
        rw [get_set, if_pos rfl]
        congr 2
        refine ce_ext (by simp [overC, blanks, zeros]; omega) fun j hj => ?_
        simp only [overC, blanks, zeros, List.getD_eq_getElem?_getD]
        grind
      · have : i = n := by omega
        subst this
        have e : blanks i ++ zeros (i - i) = blanks i := by simp [zeros]
        rw [e] at g0
        have := os_frz (lo := lo') (by omega) g0
        rw [blanks_len] at this
        exact this
  · cases hnf
end
end Go.Am
