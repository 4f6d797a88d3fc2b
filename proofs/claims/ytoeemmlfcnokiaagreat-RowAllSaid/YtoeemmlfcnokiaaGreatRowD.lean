/- Cells as slices: copies, comparisons, what is used of a row. -/
import Derived.Test.YtoeemmlfcnokiaaGreatRowM2
set_option linter.all false
set_option linter.deprecated false
namespace Go.Am
open Go.Proofs
set_option maxRecDepth 8000
set_option maxHeartbeats 4000000
theorem flat_ces (l : List Ce) : FlatE (cesA l) := FlatE.map (fun c x hx => by simp at hx; rcases hx with rfl | rfl | rfl <;> rfl) l
theorem app_cell : appInfo EZ.P 45 = some (61, 24, 3) := by kernel_rfl
theorem ces_nil {l : List Ce} : cesA l = [] ↔ l = [] := by cases l <;> simp
/-- How many cells are used. -/
def usedN (l : List Ce) : Nat → Nat
  | 0 => 0
  | n + 1 => if l.getD n zeroC = blankC then usedN l n else n + 1
theorem usedN_le (l : List Ce) (n : Nat) : usedN l n ≤ n := by
  induction n with
  | zero => exact Nat.le_refl 0
  | succ n ih => simp only [usedN]; split <;> omega
def trimL (l : List Ce) : List Ce := l.take (usedN l l.length)
theorem trimL_len (l : List Ce) : (trimL l).length = usedN l l.length := by
  have := usedN_le l l.length
  simp [trimL]; omega
section
variable {ys : List (Nat × LRec)} {lo : Nat} {H : AHeap} {A B : AV} {l m : List Ce}
theorem Clone_run (hA : SlH H 3 A (cesA l)) (h0 : l ≠ []) (hl : l.length < 2 ^ 40) : CallO EZ ys lo 78 [A] H (.os H.next 0 0 l.length) (H.push ⟨61, 3, 0, cesA l, none⟩) := by
  refine WC.ownO (x := fun m => .os m 0 0 l.length) (bs := fun _ => [⟨61, 3, 0, cesA l, none⟩]) rfl fun lo' H' hh => ?_
  have hA' := hA.two (.inr ⟨[], .inr List.mem_cons_self⟩) hh
  have hlo := lo_two hh
  have h1 : cesA l ≠ [] := fun e => h0 (ces_nil.1 e)
  have happ := append_new EZ lo' (H := H') (t := 45) (s := .e0) (.inl rfl) app_cell hA' h1 (by rw [ces_len]; unfold roomMax; omega)
  have hne := fun xo yo => nilS_no EZ lo' hA' (nilS_ne' hA' h1) 45 xo yo (by kernel_rfl)
  rw [ces_len] at happ
  refine WC.enter Tryz.func78 rfl (Nat.le_of_ble_eq_true rfl) (by simp only [Slots.of, Tryz.ntmps78, Nat.reduceAdd, Nat.reduceDiv, rows8P, row8]; rfl) ?_
  repeat' (first
   | (apply RK.free; rfl)
   | (apply RKy.pl; ((try simp only [go_sem, Nat.reduceDiv, Nat.reduceMod, Nat.reduceAdd, Nat.reduceSub, Nat.reduceEqDiff, Nat.reduceLeDiff, Nat.reduceLT, Nat.reduceMul, reduceIte, Nat.reducePow, Int.reduceEq]); rfl))
   | (apply RKp.op; ((try simp (disch := (first | omega | ((repeat (first | exact Ext.refl _ | assumption | apply Ext.push | (refine Ext.set ?_ (by (first | omega | (simp only [next_push, next_set, next_empty]; done) | (simp only [next_push, next_set, next_empty]; omega))) _))); done) | fail)) only [hne, happ, go_sem, Nat.reduceDiv, Nat.reduceMod, Nat.reduceAdd, Nat.reduceSub, Nat.reduceEqDiff, Nat.reduceLeDiff, Nat.reduceLT, Nat.reduceMul, reduceIte, Nat.reducePow, Int.reduceEq]); (first | rfl | (apply ite_ok; (first | assumption | rfl | omega | (refine ⟨?_, ?_⟩ <;> omega)); rfl))); rfl)
   | (apply RK.guard; rfl; rfl; (simp only [Nat.reduceDiv, Nat.reduceMod, get_nthS, nthS_zero, nthS_succ]; rfl))
   | apply RKg.tt
   | apply RKg.ff
   | (apply RKg.tf; rfl)
   | (apply RKg.ft; rfl)
   | (apply RKg.u; rfl)
   | ((fail_if_success (first | apply RKg.tt | apply RKg.ff | apply RKg.tf | apply RKg.ft | apply RKg.u)); refine RKg.split (fun h => ?_) (fun h => ?_) <;> (try rw [h]) <;> (try simp only [decide_eq_true_eq, decide_eq_false_iff_not, Bool.and_eq_true, Bool.or_eq_true, Bool.and_eq_false_iff, Bool.or_eq_false_iff, Bool.not_eq_true', Bool.not_eq_false', Bool.not_true, Bool.not_false, Classical.not_not, Int.not_lt, Int.not_le, reduceCtorEq, not_true_eq_false, not_false_eq_true, decide_true, decide_false, Int.reduceEq, Int.reduceLT, Int.reduceLE] at h) <;> (try (exfalso; omega)))
   | apply RK.nil
   | apply V.sq
   | apply V.bl
   | apply V.sc
   | apply V.skip
   | apply V.label
   | apply V.ret
   | apply V.exit
   | apply SeqQ.normal
   | apply SeqQ.ret
   | apply SeqQ.exit
   | apply BlockQ.normal
   | apply BlockQ.ret
   | apply BlockQ.here
   | (apply BlockQ.there; decide)
   | apply LoopS.ret
   | apply LoopS.exit
   | apply LoopF.ret
   | apply LoopF.exit
   | apply V.regK
   | (refine V.condT rfl ?_)
   | (refine V.condF rfl ?_)
   | (refine V.cond rfl (fun h => ?_) (fun h => ?_) <;> (try simp only [decide_eq_true_eq, decide_eq_false_iff_not, Bool.and_eq_true, Bool.or_eq_true, Bool.and_eq_false_iff, Bool.or_eq_false_iff, Bool.not_eq_true', Bool.not_eq_false', Bool.not_true, Bool.not_false, Classical.not_not, Int.not_lt, Int.not_le, reduceCtorEq, not_true_eq_false, not_false_eq_true, decide_true, decide_false, Int.reduceEq, Int.reduceLT, Int.reduceLE] at h) <;> (try (exfalso; omega)))
    | (refine FnQ.ret (res1 Tryz.results78) (by simp only [Nat.reduceDiv, Nat.reduceMod, get_nthS, nthS_zero, nthS_succ]; rfl) ?_; (try dsimp only)))
  exact hands_os (b := ⟨61, 3, 0, cesA l, none⟩) (by omega) (by rw [get_push, if_pos rfl]) rfl (flat_ces l)
theorem Equal_run (hA : SlH H 3 A (cesA l)) (hB : SlH H 3 B (cesA m)) (hl : l.length < 2 ^ 40) (hm : m.length < 2 ^ 40) : CallRo EZ ys lo 91 [A, B] H (.v (.bool (decide (l = m)))) := by
  refine WC.pureR rfl fun lo' H' hh => ?_
  have hA' := hA.two (.inr ⟨[], .inr (by simp)⟩) hh
  have hB' := hB.two (.inr ⟨[], .inr (by simp)⟩) hh
  refine WC.enter Tryz.func91 rfl (Nat.le_of_ble_eq_true rfl) (by simp only [Slots.of, Tryz.ntmps91, Nat.reduceAdd, Nat.reduceDiv, rows8P, row8]; rfl) ?_
  repeat' (first
   | (apply RK.free; rfl)
   | (apply RKy.pl; ((try simp only [go_sem, Nat.reduceDiv, Nat.reduceMod, Nat.reduceAdd, Nat.reduceSub, Nat.reduceEqDiff, Nat.reduceLeDiff, Nat.reduceLT, Nat.reduceMul, reduceIte, Nat.reducePow, Int.reduceEq]); rfl))
   | (apply RKp.op; ((try simp (disch := (first | omega | ((repeat (first | exact Ext.refl _ | assumption | apply Ext.push | (refine Ext.set ?_ (by (first | omega | (simp only [next_push, next_set, next_empty]; done) | (simp only [next_push, next_set, next_empty]; omega))) _))); done) | fail)) only [len_cell _ hA', len_cell _ hB', go_sem, Nat.reduceDiv, Nat.reduceMod, Nat.reduceAdd, Nat.reduceSub, Nat.reduceEqDiff, Nat.reduceLeDiff, Nat.reduceLT, Nat.reduceMul, reduceIte, Nat.reducePow, Int.reduceEq]); (first | rfl | (apply ite_ok; (first | assumption | rfl | omega | (refine ⟨?_, ?_⟩ <;> omega)); rfl))); rfl)
   | (apply RK.guard; rfl; rfl; (simp only [Nat.reduceDiv, Nat.reduceMod, get_nthS, nthS_zero, nthS_succ]; rfl))
   | apply RKg.tt
   | apply RKg.ff
   | (apply RKg.tf; rfl)
   | (apply RKg.ft; rfl)
   | (apply RKg.u; rfl)
   | ((fail_if_success (first | apply RKg.tt | apply RKg.ff | apply RKg.tf | apply RKg.ft | apply RKg.u)); refine RKg.split (fun h => ?_) (fun h => ?_) <;> (try rw [h]) <;> (try simp only [decide_eq_true_eq, decide_eq_false_iff_not, Bool.and_eq_true, Bool.or_eq_true, Bool.and_eq_false_iff, Bool.or_eq_false_iff, Bool.not_eq_true', Bool.not_eq_false', Bool.not_true, Bool.not_false, Classical.not_not, Int.not_lt, Int.not_le, reduceCtorEq, not_true_eq_false, not_false_eq_true, decide_true, decide_false, Int.reduceEq, Int.reduceLT, Int.reduceLE] at h) <;> (try (exfalso; omega)))
   | apply RK.nil
   | apply V.sq
   | apply V.bl
   | apply V.sc
   | apply V.skip
   | apply V.label
   | apply V.ret
   | apply V.exit
   | apply SeqQ.normal
   | apply SeqQ.ret
   | apply SeqQ.exit
   | apply BlockQ.normal
   | apply BlockQ.ret
   | apply BlockQ.here
   | (apply BlockQ.there; decide)
   | apply LoopS.ret
   | apply LoopS.exit
   | apply LoopF.ret
   | apply LoopF.exit
   | apply V.regK
    | (refine V.regdK (by kernel_rfl) ?_)
   | (refine DrawK.mk ?_ ?_; (focus (simp only [List.reverse_cons, List.reverse_nil, List.nil_append, List.cons_append]; decide +kernel)))
   | (apply DrawK.k3; (simp only [List.reverse_cons, List.reverse_nil, List.nil_append, List.cons_append]; rfl); (focus ((repeat (first | exact Kinds3.nil | apply Kinds3.z | (apply Kinds3.ro; (focus ((first | exact bits0 | (refine bits1 ?_; (first | omega | (simp only [next_push, next_set, next_empty]; done) | (simp only [next_push, next_set, next_empty]; omega))) | (refine rd_lt hA' _ ?_; (first | omega | (simp only [next_push, next_set, next_empty]; done) | (simp only [next_push, next_set, next_empty]; omega))) | (refine rd_lt hB' _ ?_; (first | omega | (simp only [next_push, next_set, next_empty]; done) | (simp only [next_push, next_set, next_empty]; omega))) | (refine rd_lt hC' _ ?_; (first | omega | (simp only [next_push, next_set, next_empty]; done) | (simp only [next_push, next_set, next_empty]; omega)))); done))) | (apply Kinds3.rd; (focus ((first | exact bits0 | (refine bits1 ?_; (first | omega | (simp only [next_push, next_set, next_empty]; done) | (simp only [next_push, next_set, next_empty]; omega))) | (refine rd_lt hA' _ ?_; (first | omega | (simp only [next_push, next_set, next_empty]; done) | (simp only [next_push, next_set, next_empty]; omega))) | (refine rd_lt hB' _ ?_; (first | omega | (simp only [next_push, next_set, next_empty]; done) | (simp only [next_push, next_set, next_empty]; omega))) | (refine rd_lt hC' _ ?_; (first | omega | (simp only [next_push, next_set, next_empty]; done) | (simp only [next_push, next_set, next_empty]; omega)))); done))) | (apply Kinds3.nw 0; (focus (first | omega | (simp only [next_push, next_set, next_empty]; done) | (simp only [next_push, next_set, next_empty]; omega))); (focus ((first | exact bits0 | (refine bits1 ?_; (first | omega | (simp only [next_push, next_set, next_empty]; done) | (simp only [next_push, next_set, next_empty]; omega))) | (refine rd_lt hA' _ ?_; (first | omega | (simp only [next_push, next_set, next_empty]; done) | (simp only [next_push, next_set, next_empty]; omega))) | (refine rd_lt hB' _ ?_; (first | omega | (simp only [next_push, next_set, next_empty]; done) | (simp only [next_push, next_set, next_empty]; omega))) | (refine rd_lt hC' _ ?_; (first | omega | (simp only [next_push, next_set, next_empty]; done) | (simp only [next_push, next_set, next_empty]; omega)))); done))) | (apply Kinds3.nw 1; (focus (first | omega | (simp only [next_push, next_set, next_empty]; done) | (simp only [next_push, next_set, next_empty]; omega))); (focus ((first | exact bits0 | (refine bits1 ?_; (first | omega | (simp only [next_push, next_set, next_empty]; done) | (simp only [next_push, next_set, next_empty]; omega))) | (refine rd_lt hA' _ ?_; (first | omega | (simp only [next_push, next_set, next_empty]; done) | (simp only [next_push, next_set, next_empty]; omega))) | (refine rd_lt hB' _ ?_; (first | omega | (simp only [next_push, next_set, next_empty]; done) | (simp only [next_push, next_set, next_empty]; omega))) | (refine rd_lt hC' _ ?_; (first | omega | (simp only [next_push, next_set, next_empty]; done) | (simp only [next_push, next_set, next_empty]; omega)))); done))) | (apply Kinds3.nw 2; (focus (first | omega | (simp only [next_push, next_set, next_empty]; done) | (simp only [next_push, next_set, next_empty]; omega))); (focus ((first | exact bits0 | (refine bits1 ?_; (first | omega | (simp only [next_push, next_set, next_empty]; done) | (simp only [next_push, next_set, next_empty]; omega))) | (refine rd_lt hA' _ ?_; (first | omega | (simp only [next_push, next_set, next_empty]; done) | (simp only [next_push, next_set, next_empty]; omega))) | (refine rd_lt hB' _ ?_; (first | omega | (simp only [next_push, next_set, next_empty]; done) | (simp only [next_push, next_set, next_empty]; omega))) | (refine rd_lt hC' _ ?_; (first | omega | (simp only [next_push, next_set, next_empty]; done) | (simp only [next_push, next_set, next_empty]; omega)))); done))) | (apply Kinds3.ra; (focus (first | exact RoT.zero | exact RoT.rd | exact RoT.all | exact RoT.rdTr _ | assumption))) | apply Kinds3.any)); done)); decide +kernel)
   | (refine V.condT rfl ?_)
   | (refine V.condF rfl ?_)
   | (refine V.cond rfl (fun h => ?_) (fun h => ?_) <;> (try simp only [decide_eq_true_eq, decide_eq_false_iff_not, Bool.and_eq_true, Bool.or_eq_true, Bool.and_eq_false_iff, Bool.or_eq_false_iff, Bool.not_eq_true', Bool.not_eq_false', Bool.not_true, Bool.not_false, Classical.not_not, Int.not_lt, Int.not_le, reduceCtorEq, not_true_eq_false, not_false_eq_true, decide_true, decide_false, Int.reduceEq, Int.reduceLT, Int.reduceLE] at h) <;> (try (exfalso; omega)))
    | (refine FnQ.ret (res1 Tryz.results91) (by simp only [Nat.reduceDiv, Nat.reduceMod, get_nthS, nthS_zero, nthS_succ]; rfl) ?_; (try dsimp only)))
  · rw [frzR_v]; congr 2
    rw [eq_comm, decide_eq_false_iff_not]
    rintro rfl; exact h rfl
  · have hlm : l.length = m.length := by omega
    apply V.lpF [13, 4, 5, 14, 15, 16, 17, 18, 19, 20, 21, 22, 23, 24, 25] (fun k xs => ∃ (i : Nat) (g : _), xs = .v (.int .i64 i) :: g ∧ k = l.length - i ∧ i ≤ l.length ∧ ∀ j, j < i → l.getD j zeroC = m.getD j zeroC) l.length
    focus (intro xs; simp only [putMany, set2, Nat.reduceAdd, Nat.reduceDiv, Nat.reduceMod, nth_zero, nth_succ, List.set_cons_zero, List.set_cons_succ]; rfl)
    focus (first | rfl | simp only [readMany, nth_zero, nth_succ, Nat.reduceDiv, Nat.reduceMod])
    · exact ⟨0, _, rfl, rfl, Nat.zero_le _, fun j h => absurd h (Nat.not_lt_zero _)⟩
    · rintro k xs ⟨i, g, rfl, rfl, hi, hst⟩
      repeat' (first
       | (apply RK.free; rfl)
       | (apply RKy.pl; ((try simp only [go_sem, Nat.reduceDiv, Nat.reduceMod, Nat.reduceAdd, Nat.reduceSub, Nat.reduceEqDiff, Nat.reduceLeDiff, Nat.reduceLT, Nat.reduceMul, reduceIte, Nat.reducePow, Int.reduceEq]); rfl))
       | (apply RKp.op; ((try simp (disch := (first | omega | ((repeat (first | exact Ext.refl _ | assumption | apply Ext.push | (refine Ext.set ?_ (by (first | omega | (simp only [next_push, next_set, next_empty]; done) | (simp only [next_push, next_set, next_empty]; omega))) _))); done) | fail)) only [ix_cell _ hA', ix_cell _ hB', ld_cell _ hA', ld_cell _ hB', eqC0, eqC1, go_sem, Nat.reduceDiv, Nat.reduceMod, Nat.reduceAdd, Nat.reduceSub, Nat.reduceEqDiff, Nat.reduceLeDiff, Nat.reduceLT, Nat.reduceMul, reduceIte, Nat.reducePow, Int.reduceEq]); (first | rfl | (apply ite_ok; (first | assumption | rfl | omega | (refine ⟨?_, ?_⟩ <;> omega)); rfl))); rfl)
       | (apply RK.guard; rfl; rfl; (simp only [Nat.reduceDiv, Nat.reduceMod, get_nthS, nthS_zero, nthS_succ]; rfl))
       | apply RKg.tt
       | apply RKg.ff
       | (apply RKg.tf; rfl)
       | (apply RKg.ft; rfl)
       | (apply RKg.u; rfl)
       | ((fail_if_success (first | apply RKg.tt | apply RKg.ff | apply RKg.tf | apply RKg.ft | apply RKg.u)); refine RKg.split (fun h => ?_) (fun h => ?_) <;> (try rw [h]) <;> (try simp only [decide_eq_true_eq, decide_eq_false_iff_not, Bool.and_eq_true, Bool.or_eq_true, Bool.and_eq_false_iff, Bool.or_eq_false_iff, Bool.not_eq_true', Bool.not_eq_false', Bool.not_true, Bool.not_false, Classical.not_not, Int.not_lt, Int.not_le, reduceCtorEq, not_true_eq_false, not_false_eq_true, decide_true, decide_false, Int.reduceEq, Int.reduceLT, Int.reduceLE] at h) <;> (try (exfalso; omega)))
       | apply RK.nil
       | apply V.sq
       | apply V.bl
       | apply V.sc
       | apply V.skip
       | apply V.label
       | apply V.ret
       | apply V.exit
       | apply SeqQ.normal
       | apply SeqQ.ret
       | apply SeqQ.exit
       | apply BlockQ.normal
       | apply BlockQ.ret
       | apply BlockQ.here
       | (apply BlockQ.there; decide)
       | apply LoopS.ret
       | apply LoopS.exit
       | apply LoopF.ret
       | apply LoopF.exit
       | apply V.regK
        | (refine V.regdK (by kernel_rfl) ?_)
       | (refine DrawK.mk ?_ ?_; (focus (simp only [List.reverse_cons, List.reverse_nil, List.nil_append, List.cons_append]; decide +kernel)))
       | (apply DrawK.k3; (simp only [List.reverse_cons, List.reverse_nil, List.nil_append, List.cons_append]; rfl); (focus ((repeat (first | exact Kinds3.nil | apply Kinds3.z | (apply Kinds3.ro; (focus ((first | exact bits0 | (refine bits1 ?_; (first | omega | (simp only [next_push, next_set, next_empty]; done) | (simp only [next_push, next_set, next_empty]; omega))) | (refine rd_lt hA' _ ?_; (first | omega | (simp only [next_push, next_set, next_empty]; done) | (simp only [next_push, next_set, next_empty]; omega))) | (refine rd_lt hB' _ ?_; (first | omega | (simp only [next_push, next_set, next_empty]; done) | (simp only [next_push, next_set, next_empty]; omega))) | (refine rd_lt hC' _ ?_; (first | omega | (simp only [next_push, next_set, next_empty]; done) | (simp only [next_push, next_set, next_empty]; omega)))); done))) | (apply Kinds3.rd; (focus ((first | exact bits0 | (refine bits1 ?_; (first | omega | (simp only [next_push, next_set, next_empty]; done) | (simp only [next_push, next_set, next_empty]; omega))) | (refine rd_lt hA' _ ?_; (first | omega | (simp only [next_push, next_set, next_empty]; done) | (simp only [next_push, next_set, next_empty]; omega))) | (refine rd_lt hB' _ ?_; (first | omega | (simp only [next_push, next_set, next_empty]; done) | (simp only [next_push, next_set, next_empty]; omega))) | (refine rd_lt hC' _ ?_; (first | omega | (simp only [next_push, next_set, next_empty]; done) | (simp only [next_push, next_set, next_empty]; omega)))); done))) | (apply Kinds3.nw 0; (focus (first | omega | (simp only [next_push, next_set, next_empty]; done) | (simp only [next_push, next_set, next_empty]; omega))); (focus ((first | exact bits0 | (refine bits1 ?_; (first | omega | (simp only [next_push, next_set, next_empty]; done) | (simp only [next_push, next_set, next_empty]; omega))) | (refine rd_lt hA' _ ?_; (first | omega | (simp only [next_push, next_set, next_empty]; done) | (simp only [next_push, next_set, next_empty]; omega))) | (refine rd_lt hB' _ ?_; (first | omega | (simp only [next_push, next_set, next_empty]; done) | (simp only [next_push, next_set, next_empty]; omega))) | (refine rd_lt hC' _ ?_; (first | omega | (simp only [next_push, next_set, next_empty]; done) | (simp only [next_push, next_set, next_empty]; omega)))); done))) | (apply Kinds3.nw 1; (focus (first | omega | (simp only [next_push, next_set, next_empty]; done) | (simp only [next_push, next_set, next_empty]; omega))); (focus ((first | exact bits0 | (refine bits1 ?_; (first | omega | (simp only [next_push, next_set, next_empty]; done) | (simp only [next_push, next_set, next_empty]; omega))) | (refine rd_lt hA' _ ?_; (first | omega | (simp only [next_push, next_set, next_empty]; done) | (simp only [next_push, next_set, next_empty]; omega))) | (refine rd_lt hB' _ ?_; (first | omega | (simp only [next_push, next_set, next_empty]; done) | (simp only [next_push, next_set, next_empty]; omega))) | (refine rd_lt hC' _ ?_; (first | omega | (simp only [next_push, next_set, next_empty]; done) | (simp only [next_push, next_set, next_empty]; omega)))); done))) | (apply Kinds3.nw 2; (focus (first | omega | (simp only [next_push, next_set, next_empty]; done) | (simp only [next_push, next_set, next_empty]; omega))); (focus ((first | exact bits0 | (refine bits1 ?_; (first | omega | (simp only [next_push, next_set, next_empty]; done) | (simp only [next_push, next_set, next_empty]; omega))) | (refine rd_lt hA' _ ?_; (first | omega | (simp only [next_push, next_set, next_empty]; done) | (simp only [next_push, next_set, next_empty]; omega))) | (refine rd_lt hB' _ ?_; (first | omega | (simp only [next_push, next_set, next_empty]; done) | (simp only [next_push, next_set, next_empty]; omega))) | (refine rd_lt hC' _ ?_; (first | omega | (simp only [next_push, next_set, next_empty]; done) | (simp only [next_push, next_set, next_empty]; omega)))); done))) | (apply Kinds3.ra; (focus (first | exact RoT.zero | exact RoT.rd | exact RoT.all | exact RoT.rdTr _ | assumption))) | apply Kinds3.any)); done)); decide +kernel)
       | (refine V.condT rfl ?_)
       | (refine V.condF rfl ?_)
       | (refine V.cond rfl (fun h => ?_) (fun h => ?_) <;> (try simp only [decide_eq_true_eq, decide_eq_false_iff_not, Bool.and_eq_true, Bool.or_eq_true, Bool.and_eq_false_iff, Bool.or_eq_false_iff, Bool.not_eq_true', Bool.not_eq_false', Bool.not_true, Bool.not_false, Classical.not_not, Int.not_lt, Int.not_le, reduceCtorEq, not_true_eq_false, not_false_eq_true, decide_true, decide_false, Int.reduceEq, Int.reduceLT, Int.reduceLE] at h) <;> (try (exfalso; omega)))
        | (refine FnQ.ret (res1 Tryz.results91) (by simp only [Nat.reduceDiv, Nat.reduceMod, get_nthS, nthS_zero, nthS_succ]; rfl) ?_; (try dsimp only)))
      · rw [frzR_v]; congr 2
        rw [eq_comm, decide_eq_false_iff_not]
        rintro rfl; simp at h
      · refine LoopF.again (l.length - (i + 1)) (by rfl) (by omega) ⟨i + 1, _, rfl, rfl, by omega, fun j hj => ?_⟩
        rcases Nat.lt_succ_iff_lt_or_eq.1 hj with hj | rfl
        · exact hst j hj
        · obtain ⟨h1, h2, h3⟩ := h
          exact Ce.eqv.2 ⟨h1, h2, h3⟩
      · rw [frzR_v]; congr 2
        rw [eq_comm, decide_eq_true_eq]
        refine List.ext_getElem hlm fun j h1 h2 => ?_
        have := hst j (by omega)
        simpa [List.getD_eq_getElem?_getD, List.getElem?_eq_getElem h1, List.getElem?_eq_getElem h2] using this
end
end Go.Am
