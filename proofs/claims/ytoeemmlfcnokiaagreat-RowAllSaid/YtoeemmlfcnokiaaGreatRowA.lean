/- Parts of the proof: RowS RowA. -/
import Derived.Test.YtoeemmlfcnokiaaGreatRowL
import Derived.Test.YtoeemmlfcnokiaaGreatAmF
set_option linter.all false
set_option linter.deprecated false

namespace Go.Am
open Go.Proofs
set_option maxRecDepth 8000
set_option maxHeartbeats 4000000
theorem eraL_len (l : List Ce) (a b : Nat) : (eraL l a b).length = l.length := by unfold eraL; split <;> simp [putL_len]
theorem era_idem {l : List Ce} {a b : Nat} (h : b ≤ l.length) : eraL (eraL l a b) a b = eraL l a b := by
  unfold eraL
  by_cases he : a = b
  · simp only [if_pos he]
  · simp only [if_neg he]
    by_cases hab : a < b
    · refine ce_ext (by rw [putL_len]) fun j hj => ?_
      rw [putL_len, putL_len] at hj
      have hk := putL_at l a (blanks (b - a))
      rw [blanks_len] at hk
      rw [putL_at _ _ _ _ (by rw [putL_len]; exact hj), blanks_len]
      have e1 := hk j hj
      have e2 := hk a (by omega)
      rw [if_pos (by omega), blanks_at _ _ (by omega)] at e2
      by_cases c1 : a ≤ j ∧ j < a + (b - a)
      · rw [if_pos c1] at e1 ⊢; exact e1.symm
      · rw [if_neg c1] at e1 ⊢
        rw [if_neg (by rw [e2]; simp)]
        by_cases c3 : j = a + (b - a) ∧ (l.getD j zeroC).w = 0
        · have : ((putL l a (blanks (b - a))).getD j zeroC).w ≠ 0 := by
            rw [e1]
            split
            · simp
            · first | (rw [if_pos c3]; simp) | simp
          rw [if_neg (fun z => this z.2)]
        · by_cases c4 : j = a + (b - a)
          · have : ((putL l a (blanks (b - a))).getD j zeroC).w ≠ 0 := by
              rw [e1]
              split
              · simp
              · first | (rw [if_neg c3]; exact fun z => c3 ⟨c4, z⟩) | exact fun z => c3 ⟨c4, z⟩
            rw [if_neg (fun z => this z.2)]
          · rw [if_neg (fun z => c4 z.1)]
    · have hz : b - a = 0 := by omega
      have hb0 : blanks (b - a) = [] := by rw [hz]; rfl
      have : ∀ l : List Ce, putL (putL l a []) a [] = putL l a [] := fun l => by
        refine ce_ext (by rw [putL_len]) fun j hj => ?_
        rw [putL_len, putL_len] at hj
        rw [putL_at _ _ _ _ (by rw [putL_len]; exact hj)]
        by_cases ha : a < l.length
        · simp only [putL_at _ _ _ _ hj, putL_at _ _ _ _ ha, List.length_nil, Nat.add_zero]
          grind
        · have hg : (putL l a []).getD a zeroC = zeroC := by simp [List.getD_eq_getElem?_getD, List.getElem?_eq_none (by rw [putL_len]; omega : (putL l a []).length ≤ a)]
          have hg2 : l.getD a zeroC = zeroC := by simp [List.getD_eq_getElem?_getD, List.getElem?_eq_none (by omega : l.length ≤ a)]
          simp only [putL_at _ _ _ _ hj, hg, hg2, List.length_nil, Nat.add_zero]
          grind
      rw [hb0]; exact this l
theorem eraG {l : List Ce} (hl : rowG l) {a b : Nat} (h : a ≤ b) (hb : b ≤ l.length) : rowG (eraL l a b) := by
  unfold eraL
  split
  · exact hl
  · exact put_rowG hl _ _ (by rw [blanks_len]; omega) (by rw [blanks_len]; omega) (blank_cells _)
theorem era_in {l : List Ce} {a b : Nat} (hb : b ≤ l.length) (j : Nat) (h1 : a ≤ j) (h2 : j < b) : (eraL l a b).getD j zeroC = blankC := by
  unfold eraL
  rw [if_neg (by omega), putL_at _ _ _ _ (by omega), blanks_len, if_pos (by omega), blanks_at _ _ (by omega)]
theorem era_out {l : List Ce} {a b : Nat} (hab : a ≤ b) (hb : b ≤ l.length) (j : Nat) (hj : j < l.length) (h1 : ¬ (a ≤ j ∧ j < b)) (h2 : j + 1 ≠ a) (h3 : j ≠ b) : (eraL l a b).getD j zeroC = l.getD j zeroC := by
  unfold eraL
  split
  · rfl
  · rw [putL_at _ _ _ _ hj, blanks_len, if_neg (by omega), if_neg (fun z => h2 z.1), if_neg (fun z => h3 (by omega))]
theorem eraW_idem (l : List Ce) (wr : Bool) (a b : Int) (h : l.length = (eraL l a.toNat b.toNat).length) : eraW (eraL l a.toNat b.toNat) (eraW l wr a b) a b = eraW l wr a b := by
  unfold eraW; rw [← h]; cases wr <;> simp
theorem R32_take {l : List Ce} (h : R32 l) (n : Nat) : R32 (l.take n) := fun i => by
  rcases Nat.lt_or_ge i (l.take n).length with hi | hi
  · have : (l.take n).getD i zeroC = l.getD i zeroC := by
      simp only [List.length_take] at hi
      simp [List.getD_eq_getElem?_getD, List.getElem?_take, show i < n by omega]
    rw [this]; exact h i
  · simp [List.getD_eq_getElem?_getD, List.getElem?_eq_none hi]
section
variable {ys : List (Nat × LRec)} {lo : Nat} {H : AHeap} {A B : AV} {l m : List Ce} {wr wr' : Bool}
theorem begun_R : CallR EZ ys lo 14 [] H (.v (.bool true)) H ⟨0, 0, 0⟩ := by
  obtain ⟨H', h⟩ := isT_ok begun_run
  exact WC.pure' (E := EZ) rfl rfl ⟨_, _, _, h, rfl⟩ _ _ _
theorem RowSpan_law (hA : Sl 3 A (cesA l)) (hl : l.length < 2 ^ 63) (h32 : R32 l) (a b : Int) (ha : -9223372036854775808 ≤ a ∧ a ≤ 9223372036854775807) (hb : -9223372036854775808 ≤ b ∧ b ≤ 9223372036854775807) : WC EZ [] 0 7 [rowA A wr, .v (.int .i64 a), .v (.int .i64 b)] .empty fun x _ => x = .v (.bool true) := by
  have hA0 : ∀ H, SlH H 3 A (cesA l) := fun H => .inl hA
  have hl4 := fun H => law4Row_run (ys := []) (lo := 0) (H := H) (wr := wr) (hA0 H) hl
  refine WC.enter Tryz.func7 rfl (Nat.le_of_ble_eq_true rfl) (by simp only [Slots.of, Tryz.ntmps7, Nat.reduceAdd, Nat.reduceDiv, rows8P, row8]; rfl) ?_
  repeat' (first
   | (apply RK.free; rfl)
   | (apply RKy.pl; ((try simp only [go_sem, Nat.reduceDiv, Nat.reduceMod, Nat.reduceAdd, Nat.reduceSub, Nat.reduceEqDiff, Nat.reduceLeDiff, Nat.reduceLT, Nat.reduceMul, reduceIte, Nat.reducePow, Int.reduceEq]); rfl))
   | (apply RKp.op; ((try simp (disch := (first | omega | ((repeat (first | exact Ext.refl _ | assumption | apply Ext.push | (refine Ext.set ?_ (by (first | omega | (simp only [next_push, next_set, next_empty]; done) | (simp only [next_push, next_set, next_empty]; omega))) _))); done) | fail)) only [go_sem, Nat.reduceDiv, Nat.reduceMod, Nat.reduceAdd, Nat.reduceSub, Nat.reduceEqDiff, Nat.reduceLeDiff, Nat.reduceLT, Nat.reduceMul, reduceIte, Nat.reducePow, Int.reduceEq]); (first | rfl | (apply ite_ok; (first | assumption | rfl | omega | (refine ⟨?_, ?_⟩ <;> omega)); rfl))); rfl)
   | (apply RKp.call; ((first | apply begun_R | apply hl4) <;> (first | assumption | rfl | omega | (refine ⟨?_, ?_⟩ <;> omega))); rfl)
   | (apply RKp.callR; ((first | apply begun_R | apply hl4) <;> (first | assumption | rfl | omega | (refine ⟨?_, ?_⟩ <;> omega))); rfl; intro tr htr)
   | (apply RKp.callO; ((first | apply begun_R | apply hl4) <;> (first | assumption | rfl | omega | (refine ⟨?_, ?_⟩ <;> omega))); rfl; intro tr)
   | (apply RKp.callRE; ((first | apply begun_R | apply hl4) <;> (first | assumption | rfl | omega | (refine ⟨?_, ?_⟩ <;> omega))); (intro x; rfl))
   | (apply RKp.callE; ((first | apply begun_R | apply hl4) <;> (first | assumption | rfl | omega | (refine ⟨?_, ?_⟩ <;> omega))); (intro x; rfl))
   | (apply RK.guard; rfl; rfl; (simp only [Nat.reduceDiv, Nat.reduceMod, get_nthS, nthS_zero, nthS_succ]; rfl))
   | apply RKg.tt
   | apply RKg.ff
   | (apply RKg.tf; rfl)
   | (apply RKg.ft; rfl)
   | (apply RKg.u; rfl)
   | ((fail_if_success (first | apply RKg.tt | apply RKg.ff | apply RKg.tf | apply RKg.ft | apply RKg.u)); refine RKg.split (fun h => ?_) (fun h => ?_) <;> (try rw [h]) <;> (try simp only [decide_eq_true_eq, decide_eq_false_iff_not, Bool.and_eq_true, Bool.or_eq_true, Bool.and_eq_false_iff, Bool.or_eq_false_iff, Bool.not_eq_true', Bool.not_eq_false', Bool.not_true, Bool.not_false, Classical.not_not, Int.not_lt, Int.not_le, reduceCtorEq, not_true_eq_false, not_false_eq_true, decide_true, decide_false, Int.reduceEq, Int.reduceLT, Int.reduceLE] at h) <;> (try (exfalso; omega)))
   | apply RK.nil
   | apply V.sq
   | apply V.bl
   | apply V.sc
   | apply V.skip
   | apply V.label
   | apply V.ret
   | apply V.exit
   | apply SeqQ.normal
   | apply SeqQ.ret
   | apply SeqQ.exit
   | apply BlockQ.normal
   | apply BlockQ.ret
   | apply BlockQ.here
   | (apply BlockQ.there; decide)
   | apply LoopS.ret
   | apply LoopS.exit
   | apply LoopF.ret
   | apply LoopF.exit
   | apply V.regK
    | (refine V.regdK (by kernel_rfl) ?_)
   | (refine DrawK.mk ?_ ?_; (focus (simp only [List.reverse_cons, List.reverse_nil, List.nil_append, List.cons_append]; decide +kernel)))
   | (apply DrawK.k3; (simp only [List.reverse_cons, List.reverse_nil, List.nil_append, List.cons_append]; rfl); (focus ((repeat (first | exact Kinds3.nil | apply Kinds3.z | (apply Kinds3.ro; (focus ((first | exact bits0 | (refine bits1 ?_; (first | omega | (simp only [next_push, next_set, next_empty]; done) | (simp only [next_push, next_set, next_empty]; omega))) | (refine rd_lt hA' _ ?_; (first | omega | (simp only [next_push, next_set, next_empty]; done) | (simp only [next_push, next_set, next_empty]; omega))) | (refine rd_lt hB' _ ?_; (first | omega | (simp only [next_push, next_set, next_empty]; done) | (simp only [next_push, next_set, next_empty]; omega))) | (refine rd_lt hC' _ ?_; (first | omega | (simp only [next_push, next_set, next_empty]; done) | (simp only [next_push, next_set, next_empty]; omega)))); done))) | (apply Kinds3.rd; (focus ((first | exact bits0 | (refine bits1 ?_; (first | omega | (simp only [next_push, next_set, next_empty]; done) | (simp only [next_push, next_set, next_empty]; omega))) | (refine rd_lt hA' _ ?_; (first | omega | (simp only [next_push, next_set, next_empty]; done) | (simp only [next_push, next_set, next_empty]; omega))) | (refine rd_lt hB' _ ?_; (first | omega | (simp only [next_push, next_set, next_empty]; done) | (simp only [next_push, next_set, next_empty]; omega))) | (refine rd_lt hC' _ ?_; (first | omega | (simp only [next_push, next_set, next_empty]; done) | (simp only [next_push, next_set, next_empty]; omega)))); done))) | (apply Kinds3.nw 0; (focus (first | omega | (simp only [next_push, next_set, next_empty]; done) | (simp only [next_push, next_set, next_empty]; omega))); (focus ((first | exact bits0 | (refine bits1 ?_; (first | omega | (simp only [next_push, next_set, next_empty]; done) | (simp only [next_push, next_set, next_empty]; omega))) | (refine rd_lt hA' _ ?_; (first | omega | (simp only [next_push, next_set, next_empty]; done) | (simp only [next_push, next_set, next_empty]; omega))) | (refine rd_lt hB' _ ?_; (first | omega | (simp only [next_push, next_set, next_empty]; done) | (simp only [next_push, next_set, next_empty]; omega))) | (refine rd_lt hC' _ ?_; (first | omega | (simp only [next_push, next_set, next_empty]; done) | (simp only [next_push, next_set, next_empty]; omega)))); done))) | (apply Kinds3.nw 1; (focus (first | omega | (simp only [next_push, next_set, next_empty]; done) | (simp only [next_push, next_set, next_empty]; omega))); (focus ((first | exact bits0 | (refine bits1 ?_; (first | omega | (simp only [next_push, next_set, next_empty]; done) | (simp only [next_push, next_set, next_empty]; omega))) | (refine rd_lt hA' _ ?_; (first | omega | (simp only [next_push, next_set, next_empty]; done) | (simp only [next_push, next_set, next_empty]; omega))) | (refine rd_lt hB' _ ?_; (first | omega | (simp only [next_push, next_set, next_empty]; done) | (simp only [next_push, next_set, next_empty]; omega))) | (refine rd_lt hC' _ ?_; (first | omega | (simp only [next_push, next_set, next_empty]; done) | (simp only [next_push, next_set, next_empty]; omega)))); done))) | (apply Kinds3.nw 2; (focus (first | omega | (simp only [next_push, next_set, next_empty]; done) | (simp only [next_push, next_set, next_empty]; omega))); (focus ((first | exact bits0 | (refine bits1 ?_; (first | omega | (simp only [next_push, next_set, next_empty]; done) | (simp only [next_push, next_set, next_empty]; omega))) | (refine rd_lt hA' _ ?_; (first | omega | (simp only [next_push, next_set, next_empty]; done) | (simp only [next_push, next_set, next_empty]; omega))) | (refine rd_lt hB' _ ?_; (first | omega | (simp only [next_push, next_set, next_empty]; done) | (simp only [next_push, next_set, next_empty]; omega))) | (refine rd_lt hC' _ ?_; (first | omega | (simp only [next_push, next_set, next_empty]; done) | (simp only [next_push, next_set, next_empty]; omega)))); done))) | (apply Kinds3.ra; (focus (first | exact RoT.zero | exact RoT.rd | exact RoT.all | exact RoT.rdTr _ | assumption))) | apply Kinds3.any)); done)); decide +kernel)
   | (refine V.condT rfl ?_)
   | (refine V.condF rfl ?_)
   | (refine V.cond rfl (fun h => ?_) (fun h => ?_) <;> (try simp only [decide_eq_true_eq, decide_eq_false_iff_not, Bool.and_eq_true, Bool.or_eq_true, Bool.and_eq_false_iff, Bool.or_eq_false_iff, Bool.not_eq_true', Bool.not_eq_false', Bool.not_true, Bool.not_false, Classical.not_not, Int.not_lt, Int.not_le, reduceCtorEq, not_true_eq_false, not_false_eq_true, decide_true, decide_false, Int.reduceEq, Int.reduceLT, Int.reduceLE] at h) <;> (try (exfalso; omega)))
    | (refine FnQ.ret (res1 Tryz.results7) (by simp only [Nat.reduceDiv, Nat.reduceMod, get_nthS, nthS_zero, nthS_succ]; rfl) ?_; (try dsimp only)))
  rintro x tr htr ⟨A1, rfl, hA1⟩
  have hq : (l.take 310).length < 2 ^ 40 := by rw [List.length_take]; omega
  have h32' := R32_take h32 310
  generalize l.take 310 = r at *
  have hA1' : ∀ H, SlH H 3 A1 (cesA r) := fun H => .inl hA1
  have hA' : SlH .empty 3 A1 (cesA r) := .inl hA1
  have hRow := fun H => Row_R (ys := []) (lo := 0) (H := H) (wr := wr) (hA1' H) hq h32'
  have hEra := fun H => Erase_run (ys := []) (lo := 0) (H := H) (wr := wr) (hA1' H) hq a b ha hb
  repeat' (first
   | (apply RK.free; rfl)
   | (apply RKy.pl; ((try simp only [go_sem, Nat.reduceDiv, Nat.reduceMod, Nat.reduceAdd, Nat.reduceSub, Nat.reduceEqDiff, Nat.reduceLeDiff, Nat.reduceLT, Nat.reduceMul, reduceIte, Nat.reducePow, Int.reduceEq]); rfl))
   | (apply RKp.op; ((try simp (disch := (first | omega | ((repeat (first | exact Ext.refl _ | assumption | apply Ext.push | (refine Ext.set ?_ (by (first | omega | (simp only [next_push, next_set, next_empty]; done) | (simp only [next_push, next_set, next_empty]; omega))) _))); done) | fail)) only [len_cellX 0 hA', ix_cellX 0 hA', ld_cellX 0 hA', fa_cellX 0 hA', lf_wX 0 hA', lf_aX 0 hA', lf_rX 0 hA', sl_hiX 0 hA', sl_loX 0 hA', sl_lohiX 0 hA', go_sem, Nat.reduceDiv, Nat.reduceMod, Nat.reduceAdd, Nat.reduceSub, Nat.reduceEqDiff, Nat.reduceLeDiff, Nat.reduceLT, Nat.reduceMul, reduceIte, Nat.reducePow, Int.reduceEq]); (first | rfl | (apply ite_ok; (first | assumption | rfl | omega | (refine ⟨?_, ?_⟩ <;> omega)); rfl))); rfl)
   | (apply RKp.call; ((first | apply hRow | apply hEra) <;> (first | assumption | rfl | omega | (refine ⟨?_, ?_⟩ <;> omega))); rfl)
   | (apply RKp.callR; ((first | apply hRow | apply hEra) <;> (first | assumption | rfl | omega | (refine ⟨?_, ?_⟩ <;> omega))); rfl; intro tr htr)
   | (apply RKp.callO; ((first | apply hRow | apply hEra) <;> (first | assumption | rfl | omega | (refine ⟨?_, ?_⟩ <;> omega))); rfl; intro tr)
   | (apply RKp.callRE; ((first | apply hRow | apply hEra) <;> (first | assumption | rfl | omega | (refine ⟨?_, ?_⟩ <;> omega))); (intro x; rfl))
   | (apply RKp.callE; ((first | apply hRow | apply hEra) <;> (first | assumption | rfl | omega | (refine ⟨?_, ?_⟩ <;> omega))); (intro x; rfl))
   | (apply RK.guard; rfl; rfl; (simp only [Nat.reduceDiv, Nat.reduceMod, get_nthS, nthS_zero, nthS_succ]; rfl))
   | apply RKg.tt
   | apply RKg.ff
   | (apply RKg.tf; rfl)
   | (apply RKg.ft; rfl)
   | (apply RKg.u; rfl)
   | ((fail_if_success (first | apply RKg.tt | apply RKg.ff | apply RKg.tf | apply RKg.ft | apply RKg.u)); refine RKg.split (fun h => ?_) (fun h => ?_) <;> (try rw [h]) <;> (try simp only [decide_eq_true_eq, decide_eq_false_iff_not, Bool.and_eq_true, Bool.or_eq_true, Bool.and_eq_false_iff, Bool.or_eq_false_iff, Bool.not_eq_true', Bool.not_eq_false', Bool.not_true, Bool.not_false, Classical.not_not, Int.not_lt, Int.not_le, reduceCtorEq, not_true_eq_false, not_false_eq_true, decide_true, decide_false, Int.reduceEq, Int.reduceLT, Int.reduceLE] at h) <;> (try (exfalso; omega)))
   | apply RK.nil
   | apply V.sq
   | apply V.bl
   | apply V.sc
   | apply V.skip
   | apply V.label
   | apply V.ret
   | apply V.exit
   | apply SeqQ.normal
   | apply SeqQ.ret
   | apply SeqQ.exit
   | apply BlockQ.normal
   | apply BlockQ.ret
   | apply BlockQ.here
   | (apply BlockQ.there; decide)
   | apply LoopS.ret
   | apply LoopS.exit
   | apply LoopF.ret
   | apply LoopF.exit
   | apply V.regK
    | (refine V.regdK (by kernel_rfl) ?_)
   | (refine DrawK.mk ?_ ?_; (focus (simp only [List.reverse_cons, List.reverse_nil, List.nil_append, List.cons_append]; decide +kernel)))
   | (apply DrawK.k3; (simp only [List.reverse_cons, List.reverse_nil, List.nil_append, List.cons_append]; rfl); (focus ((repeat (first | exact Kinds3.nil | apply Kinds3.z | (apply Kinds3.ro; (focus ((first | exact bits0 | (refine bits1 ?_; (first | omega | (simp only [next_push, next_set, next_empty]; done) | (simp only [next_push, next_set, next_empty]; omega))) | (refine rd_lt hA' _ ?_; (first | omega | (simp only [next_push, next_set, next_empty]; done) | (simp only [next_push, next_set, next_empty]; omega))) | (refine rd_lt hB' _ ?_; (first | omega | (simp only [next_push, next_set, next_empty]; done) | (simp only [next_push, next_set, next_empty]; omega))) | (refine rd_lt hC' _ ?_; (first | omega | (simp only [next_push, next_set, next_empty]; done) | (simp only [next_push, next_set, next_empty]; omega)))); done))) | (apply Kinds3.rd; (focus ((first | exact bits0 | (refine bits1 ?_; (first | omega | (simp only [next_push, next_set, next_empty]; done) | (simp only [next_push, next_set, next_empty]; omega))) | (refine rd_lt hA' _ ?_; (first | omega | (simp only [next_push, next_set, next_empty]; done) | (simp only [next_push, next_set, next_empty]; omega))) | (refine rd_lt hB' _ ?_; (first | omega | (simp only [next_push, next_set, next_empty]; done) | (simp only [next_push, next_set, next_empty]; omega))) | (refine rd_lt hC' _ ?_; (first | omega | (simp only [next_push, next_set, next_empty]; done) | (simp only [next_push, next_set, next_empty]; omega)))); done))) | (apply Kinds3.nw 0; (focus (first | omega | (simp only [next_push, next_set, next_empty]; done) | (simp only [next_push, next_set, next_empty]; omega))); (focus ((first | exact bits0 | (refine bits1 ?_; (first | omega | (simp only [next_push, next_set, next_empty]; done) | (simp only [next_push, next_set, next_empty]; omega))) | (refine rd_lt hA' _ ?_; (first | omega | (simp only [next_push, next_set, next_empty]; done) | (simp only [next_push, next_set, next_empty]; omega))) | (refine rd_lt hB' _ ?_; (first | omega | (simp only [next_push, next_set, next_empty]; done) | (simp only [next_push, next_set, next_empty]; omega))) | (refine rd_lt hC' _ ?_; (first | omega | (simp only [next_push, next_set, next_empty]; done) | (simp only [next_push, next_set, next_empty]; omega)))); done))) | (apply Kinds3.nw 1; (focus (first | omega | (simp only [next_push, next_set, next_empty]; done) | (simp only [next_push, next_set, next_empty]; omega))); (focus ((first | exact bits0 | (refine bits1 ?_; (first | omega | (simp only [next_push, next_set, next_empty]; done) | (simp only [next_push, next_set, next_empty]; omega))) | (refine rd_lt hA' _ ?_; (first | omega | (simp only [next_push, next_set, next_empty]; done) | (simp only [next_push, next_set, next_empty]; omega))) | (refine rd_lt hB' _ ?_; (first | omega | (simp only [next_push, next_set, next_empty]; done) | (simp only [next_push, next_set, next_empty]; omega))) | (refine rd_lt hC' _ ?_; (first | omega | (simp only [next_push, next_set, next_empty]; done) | (simp only [next_push, next_set, next_empty]; omega)))); done))) | (apply Kinds3.nw 2; (focus (first | omega | (simp only [next_push, next_set, next_empty]; done) | (simp only [next_push, next_set, next_empty]; omega))); (focus ((first | exact bits0 | (refine bits1 ?_; (first | omega | (simp only [next_push, next_set, next_empty]; done) | (simp only [next_push, next_set, next_empty]; omega))) | (refine rd_lt hA' _ ?_; (first | omega | (simp only [next_push, next_set, next_empty]; done) | (simp only [next_push, next_set, next_empty]; omega))) | (refine rd_lt hB' _ ?_; (first | omega | (simp only [next_push, next_set, next_empty]; done) | (simp only [next_push, next_set, next_empty]; omega))) | (refine rd_lt hC' _ ?_; (first | omega | (simp only [next_push, next_set, next_empty]; done) | (simp only [next_push, next_set, next_empty]; omega)))); done))) | (apply Kinds3.ra; (focus (first | exact RoT.zero | exact RoT.rd | exact RoT.all | exact RoT.rdTr _ | assumption))) | apply Kinds3.any)); done)); decide +kernel)
   | (refine V.condT rfl ?_)
   | (refine V.condF rfl ?_)
   | (refine V.cond rfl (fun h => ?_) (fun h => ?_) <;> (try simp only [decide_eq_true_eq, decide_eq_false_iff_not, Bool.and_eq_true, Bool.or_eq_true, Bool.and_eq_false_iff, Bool.or_eq_false_iff, Bool.not_eq_true', Bool.not_eq_false', Bool.not_true, Bool.not_false, Classical.not_not, Int.not_lt, Int.not_le, reduceCtorEq, not_true_eq_false, not_false_eq_true, decide_true, decide_false, Int.reduceEq, Int.reduceLT, Int.reduceLE] at h) <;> (try (exfalso; omega)))
    | (refine FnQ.ret (res1 Tryz.results7) (by simp only [Nat.reduceDiv, Nat.reduceMod, get_nthS, nthS_zero, nthS_succ]; rfl) ?_; (try dsimp only)))
  rintro x tr htr (⟨hok, A2, rfl, hB'⟩ | ⟨hno, rfl⟩)
  · obtain ⟨k1, k2, k3, k4⟩ := hok
    have el := eraL_len r a.toNat b.toNat
    have eG := eraG k1 (a := a.toNat) (b := b.toNat) (by omega) (by omega)
    have hel : (eraL r a.toNat b.toNat).length < 2 ^ 40 := by rw [el]; exact hq
    repeat' (first
     | (apply RK.free; rfl)
     | (apply RKy.pl; ((try simp only [go_sem, Nat.reduceDiv, Nat.reduceMod, Nat.reduceAdd, Nat.reduceSub, Nat.reduceEqDiff, Nat.reduceLeDiff, Nat.reduceLT, Nat.reduceMul, reduceIte, Nat.reducePow, Int.reduceEq]); rfl))
     | (apply RKp.op; ((try simp (disch := (first | omega | ((repeat (first | exact Ext.refl _ | assumption | apply Ext.push | (refine Ext.set ?_ (by (first | omega | (simp only [next_push, next_set, next_empty]; done) | (simp only [next_push, next_set, next_empty]; omega))) _))); done) | fail)) only [len_cellX 0 hA', ix_cellX 0 hA', ld_cellX 0 hA', fa_cellX 0 hA', lf_wX 0 hA', lf_aX 0 hA', lf_rX 0 hA', sl_hiX 0 hA', sl_loX 0 hA', sl_lohiX 0 hA', len_cellX 0 hB', ix_cellX 0 hB', ld_cellX 0 hB', fa_cellX 0 hB', lf_wX 0 hB', lf_aX 0 hB', lf_rX 0 hB', sl_hiX 0 hB', sl_loX 0 hB', sl_lohiX 0 hB', el, go_sem, Nat.reduceDiv, Nat.reduceMod, Nat.reduceAdd, Nat.reduceSub, Nat.reduceEqDiff, Nat.reduceLeDiff, Nat.reduceLT, Nat.reduceMul, reduceIte, Nat.reducePow, Int.reduceEq]); (first | rfl | (apply ite_ok; (first | assumption | rfl | omega | (refine ⟨?_, ?_⟩ <;> omega)); rfl))); rfl)
     | (apply RK.guard; rfl; rfl; (simp only [Nat.reduceDiv, Nat.reduceMod, get_nthS, nthS_zero, nthS_succ]; rfl))
     | apply RKg.tt
     | apply RKg.ff
     | (apply RKg.tf; rfl)
     | (apply RKg.ft; rfl)
     | (apply RKg.u; rfl)
     | ((fail_if_success (first | apply RKg.tt | apply RKg.ff | apply RKg.tf | apply RKg.ft | apply RKg.u)); refine RKg.split (fun h => ?_) (fun h => ?_) <;> (try rw [h]) <;> (try simp only [decide_eq_true_eq, decide_eq_false_iff_not, Bool.and_eq_true, Bool.or_eq_true, Bool.and_eq_false_iff, Bool.or_eq_false_iff, Bool.not_eq_true', Bool.not_eq_false', Bool.not_true, Bool.not_false, Classical.not_not, Int.not_lt, Int.not_le, reduceCtorEq, not_true_eq_false, not_false_eq_true, decide_true, decide_false, Int.reduceEq, Int.reduceLT, Int.reduceLE] at h) <;> (try (exfalso; omega)))
     | apply RK.nil
     | apply V.sq
     | apply V.bl
     | apply V.sc
     | apply V.skip
     | apply V.label
     | apply V.ret
     | apply V.exit
     | apply SeqQ.normal
     | apply SeqQ.ret
     | apply SeqQ.exit
     | apply BlockQ.normal
     | apply BlockQ.ret
     | apply BlockQ.here
     | (apply BlockQ.there; decide)
     | apply LoopS.ret
     | apply LoopS.exit
     | apply LoopF.ret
     | apply LoopF.exit
     | apply V.regK
      | (refine V.regdK (by kernel_rfl) ?_)
     | (refine DrawK.mk ?_ ?_; (focus (simp only [List.reverse_cons, List.reverse_nil, List.nil_append, List.cons_append]; decide +kernel)))
     | (apply DrawK.k3; (simp only [List.reverse_cons, List.reverse_nil, List.nil_append, List.cons_append]; rfl); (focus ((repeat (first | exact Kinds3.nil | apply Kinds3.z | (apply Kinds3.ro; (focus ((first | exact bits0 | (refine bits1 ?_; (first | omega | (simp only [next_push, next_set, next_empty]; done) | (simp only [next_push, next_set, next_empty]; omega))) | (refine rd_lt hA' _ ?_; (first | omega | (simp only [next_push, next_set, next_empty]; done) | (simp only [next_push, next_set, next_empty]; omega))) | (refine rd_lt hB' _ ?_; (first | omega | (simp only [next_push, next_set, next_empty]; done) | (simp only [next_push, next_set, next_empty]; omega))) | (refine rd_lt hC' _ ?_; (first | omega | (simp only [next_push, next_set, next_empty]; done) | (simp only [next_push, next_set, next_empty]; omega)))); done))) | (apply Kinds3.rd; (focus ((first | exact bits0 | (refine bits1 ?_; (first | omega | (simp only [next_push, next_set, next_empty]; done) | (simp only [next_push, next_set, next_empty]; omega))) | (refine rd_lt hA' _ ?_; (first | omega | (simp only [next_push, next_set, next_empty]; done) | (simp only [next_push, next_set, next_empty]; omega))) | (refine rd_lt hB' _ ?_; (first | omega | (simp only [next_push, next_set, next_empty]; done) | (simp only [next_push, next_set, next_empty]; omega))) | (refine rd_lt hC' _ ?_; (first | omega | (simp only [next_push, next_set, next_empty]; done) | (simp only [next_push, next_set, next_empty]; omega)))); done))) | (apply Kinds3.nw 0; (focus (first | omega | (simp only [next_push, next_set, next_empty]; done) | (simp only [next_push, next_set, next_empty]; omega))); (focus ((first | exact bits0 | (refine bits1 ?_; (first | omega | (simp only [next_push, next_set, next_empty]; done) | (simp only [next_push, next_set, next_empty]; omega))) | (refine rd_lt hA' _ ?_; (first | omega | (simp only [next_push, next_set, next_empty]; done) | (simp only [next_push, next_set, next_empty]; omega))) | (refine rd_lt hB' _ ?_; (first | omega | (simp only [next_push, next_set, next_empty]; done) | (simp only [next_push, next_set, next_empty]; omega))) | (refine rd_lt hC' _ ?_; (first | omega | (simp only [next_push, next_set, next_empty]; done) | (simp only [next_push, next_set, next_empty]; omega)))); done))) | (apply Kinds3.nw 1; (focus (first | omega | (simp only [next_push, next_set, next_empty]; done) | (simp only [next_push, next_set, next_empty]; omega))); (focus ((first | exact bits0 | (refine bits1 ?_; (first | omega | (simp only [next_push, next_set, next_empty]; done) | (simp only [next_push, next_set, next_empty]; omega))) | (refine rd_lt hA' _ ?_; (first | omega | (simp only [next_push, next_set, next_empty]; done) | (simp only [next_push, next_set, next_empty]; omega))) | (refine rd_lt hB' _ ?_; (first | omega | (simp only [next_push, next_set, next_empty]; done) | (simp only [next_push, next_set, next_empty]; omega))) | (refine rd_lt hC' _ ?_; (first | omega | (simp only [next_push, next_set, next_empty]; done) | (simp only [next_push, next_set, next_empty]; omega)))); done))) | (apply Kinds3.nw 2; (focus (first | omega | (simp only [next_push, next_set, next_empty]; done) | (simp only [next_push, next_set, next_empty]; omega))); (focus ((first | exact bits0 | (refine bits1 ?_; (first | omega | (simp only [next_push, next_set, next_empty]; done) | (simp only [next_push, next_set, next_empty]; omega))) | (refine rd_lt hA' _ ?_; (first | omega | (simp only [next_push, next_set, next_empty]; done) | (simp only [next_push, next_set, next_empty]; omega))) | (refine rd_lt hB' _ ?_; (first | omega | (simp only [next_push, next_set, next_empty]; done) | (simp only [next_push, next_set, next_empty]; omega))) | (refine rd_lt hC' _ ?_; (first | omega | (simp only [next_push, next_set, next_empty]; done) | (simp only [next_push, next_set, next_empty]; omega)))); done))) | (apply Kinds3.ra; (focus (first | exact RoT.zero | exact RoT.rd | exact RoT.all | exact RoT.rdTr _ | assumption))) | apply Kinds3.any)); done)); decide +kernel)
     | (refine V.condT rfl ?_)
     | (refine V.condF rfl ?_)
     | (refine V.cond rfl (fun h => ?_) (fun h => ?_) <;> (try simp only [decide_eq_true_eq, decide_eq_false_iff_not, Bool.and_eq_true, Bool.or_eq_true, Bool.and_eq_false_iff, Bool.or_eq_false_iff, Bool.not_eq_true', Bool.not_eq_false', Bool.not_true, Bool.not_false, Classical.not_not, Int.not_lt, Int.not_le, reduceCtorEq, not_true_eq_false, not_false_eq_true, decide_true, decide_false, Int.reduceEq, Int.reduceLT, Int.reduceLE] at h) <;> (try (exfalso; omega)))
      | (refine FnQ.ret (res1 Tryz.results7) (by simp only [Nat.reduceDiv, Nat.reduceMod, get_nthS, nthS_zero, nthS_succ]; rfl) ?_; (try dsimp only)))
    apply V.lpF [59, 6, 10, 11, 60, 61, 62, 63, 64, 65, 66, 67, 68, 69, 70, 71, 72, 73, 74, 75, 76, 77, 78, 79, 80, 81, 82, 83, 84, 85, 86, 87, 88, 89, 90, 91, 92, 93, 94, 95, 96, 97, 98, 99, 100, 101, 102, 103, 104, 105, 106, 107, 108] (fun k xs => ∃ (i : Nat) (g : _), xs = .v (.int .i64 i) :: g ∧ k = r.length - i ∧ i ≤ r.length) r.length
    focus (intro xs; simp only [putMany, set2, Nat.reduceAdd, Nat.reduceDiv, Nat.reduceMod, nth_zero, nth_succ, List.set_cons_zero, List.set_cons_succ]; rfl)
    focus (first | rfl | simp only [readMany, nth_zero, nth_succ, Nat.reduceDiv, Nat.reduceMod])
    · exact ⟨0, _, rfl, rfl, Nat.zero_le _⟩
    · rintro k xs ⟨i, g, rfl, rfl, hi⟩
      have hB2 : SlH ((AHeap.empty.push (rblk A1 wr)).push (rblk A2 (eraW r wr a b))) 3 A2 (cesA (eraL r a.toNat b.toNat)) := hB'.push _
      have hEra2 := Erase_run (ys := []) (lo := 0) (wr := eraW r wr a b) hB2 hel a b ha hb
      repeat' (first
       | (apply RK.free; rfl)
       | (apply RKy.pl; ((try simp only [go_sem, Nat.reduceDiv, Nat.reduceMod, Nat.reduceAdd, Nat.reduceSub, Nat.reduceEqDiff, Nat.reduceLeDiff, Nat.reduceLT, Nat.reduceMul, reduceIte, Nat.reducePow, Int.reduceEq]); rfl))
       | (apply RKp.op; ((try simp (disch := (first | omega | ((repeat (first | exact Ext.refl _ | assumption | apply Ext.push | (refine Ext.set ?_ (by (first | omega | (simp only [next_push, next_set, next_empty]; done) | (simp only [next_push, next_set, next_empty]; omega))) _))); done) | fail)) only [len_cellX 0 hA', ix_cellX 0 hA', ld_cellX 0 hA', fa_cellX 0 hA', lf_wX 0 hA', lf_aX 0 hA', lf_rX 0 hA', sl_hiX 0 hA', sl_loX 0 hA', sl_lohiX 0 hA', len_cellX 0 hB', ix_cellX 0 hB', ld_cellX 0 hB', fa_cellX 0 hB', lf_wX 0 hB', lf_aX 0 hB', lf_rX 0 hB', sl_hiX 0 hB', sl_loX 0 hB', sl_lohiX 0 hB', el, eqC1, Int.toNat_natCast, go_sem, Nat.reduceDiv, Nat.reduceMod, Nat.reduceAdd, Nat.reduceSub, Nat.reduceEqDiff, Nat.reduceLeDiff, Nat.reduceLT, Nat.reduceMul, reduceIte, Nat.reducePow, Int.reduceEq]); (first | rfl | (apply ite_ok; (first | assumption | rfl | omega | (refine ⟨?_, ?_⟩ <;> omega)); rfl))); rfl)
       | (apply RKp.call; ((first | apply refBlank_run | apply hEra2) <;> (first | assumption | rfl | omega | (refine ⟨?_, ?_⟩ <;> omega))); rfl)
       | (apply RKp.callR; ((first | apply refBlank_run | apply hEra2) <;> (first | assumption | rfl | omega | (refine ⟨?_, ?_⟩ <;> omega))); rfl; intro tr htr)
       | (apply RKp.callO; ((first | apply refBlank_run | apply hEra2) <;> (first | assumption | rfl | omega | (refine ⟨?_, ?_⟩ <;> omega))); rfl; intro tr)
       | (apply RKp.callRE; ((first | apply refBlank_run | apply hEra2) <;> (first | assumption | rfl | omega | (refine ⟨?_, ?_⟩ <;> omega))); (intro x; rfl))
       | (apply RKp.callE; ((first | apply refBlank_run | apply hEra2) <;> (first | assumption | rfl | omega | (refine ⟨?_, ?_⟩ <;> omega))); (intro x; rfl))
       | (apply RK.guard; rfl; rfl; (simp only [Nat.reduceDiv, Nat.reduceMod, get_nthS, nthS_zero, nthS_succ]; rfl))
       | apply RKg.tt
       | apply RKg.ff
       | (apply RKg.tf; rfl)
       | (apply RKg.ft; rfl)
       | (apply RKg.u; rfl)
       | ((fail_if_success (first | apply RKg.tt | apply RKg.ff | apply RKg.tf | apply RKg.ft | apply RKg.u)); refine RKg.split (fun h => ?_) (fun h => ?_) <;> (try rw [h]) <;> (try simp only [decide_eq_true_eq, decide_eq_false_iff_not, Bool.and_eq_true, Bool.or_eq_true, Bool.and_eq_false_iff, Bool.or_eq_false_iff, Bool.not_eq_true', Bool.not_eq_false', Bool.not_true, Bool.not_false, Classical.not_not, Int.not_lt, Int.not_le, reduceCtorEq, not_true_eq_false, not_false_eq_true, decide_true, decide_false, Int.reduceEq, Int.reduceLT, Int.reduceLE] at h) <;> (try (exfalso; omega)))
       | apply RK.nil
       | apply V.sq
       | apply V.bl
       | apply V.sc
       | apply V.skip
       | apply V.label
       | apply V.ret
       | apply V.exit
       | apply SeqQ.normal
       | apply SeqQ.ret
       | apply SeqQ.exit
       | apply BlockQ.normal
       | apply BlockQ.ret
       | apply BlockQ.here
       | (apply BlockQ.there; decide)
       | apply LoopS.ret
       | apply LoopS.exit
       | apply LoopF.ret
       | apply LoopF.exit
       | apply V.regK
        | (refine V.regdK (by kernel_rfl) ?_)
       | (refine DrawK.mk ?_ ?_; (focus (simp only [List.reverse_cons, List.reverse_nil, List.nil_append, List.cons_append]; decide +kernel)))
       | (apply DrawK.k3; (simp only [List.reverse_cons, List.reverse_nil, List.nil_append, List.cons_append]; rfl); (focus ((repeat (first | exact Kinds3.nil | apply Kinds3.z | (apply Kinds3.ro; (focus ((first | exact bits0 | (refine bits1 ?_; (first | omega | (simp only [next_push, next_set, next_empty]; done) | (simp only [next_push, next_set, next_empty]; omega))) | (refine rd_lt hA' _ ?_; (first | omega | (simp only [next_push, next_set, next_empty]; done) | (simp only [next_push, next_set, next_empty]; omega))) | (refine rd_lt hB' _ ?_; (first | omega | (simp only [next_push, next_set, next_empty]; done) | (simp only [next_push, next_set, next_empty]; omega))) | (refine rd_lt hC' _ ?_; (first | omega | (simp only [next_push, next_set, next_empty]; done) | (simp only [next_push, next_set, next_empty]; omega)))); done))) | (apply Kinds3.rd; (focus ((first | exact bits0 | (refine bits1 ?_; (first | omega | (simp only [next_push, next_set, next_empty]; done) | (simp only [next_push, next_set, next_empty]; omega))) | (refine rd_lt hA' _ ?_; (first | omega | (simp only [next_push, next_set, next_empty]; done) | (simp only [next_push, next_set, next_empty]; omega))) | (refine rd_lt hB' _ ?_; (first | omega | (simp only [next_push, next_set, next_empty]; done) | (simp only [next_push, next_set, next_empty]; omega))) | (refine rd_lt hC' _ ?_; (first | omega | (simp only [next_push, next_set, next_empty]; done) | (simp only [next_push, next_set, next_empty]; omega)))); done))) | (apply Kinds3.nw 0; (focus (first | omega | (simp only [next_push, next_set, next_empty]; done) | (simp only [next_push, next_set, next_empty]; omega))); (focus ((first | exact bits0 | (refine bits1 ?_; (first | omega | (simp only [next_push, next_set, next_empty]; done) | (simp only [next_push, next_set, next_empty]; omega))) | (refine rd_lt hA' _ ?_; (first | omega | (simp only [next_push, next_set, next_empty]; done) | (simp only [next_push, next_set, next_empty]; omega))) | (refine rd_lt hB' _ ?_; (first | omega | (simp only [next_push, next_set, next_empty]; done) | (simp only [next_push, next_set, next_empty]; omega))) | (refine rd_lt hC' _ ?_; (first | omega | (simp only [next_push, next_set, next_empty]; done) | (simp only [next_push, next_set, next_empty]; omega)))); done))) | (apply Kinds3.nw 1; (focus (first | omega | (simp only [next_push, next_set, next_empty]; done) | (simp only [next_push, next_set, next_empty]; omega))); (focus ((first | exact bits0 | (refine bits1 ?_; (first | omega | (simp only [next_push, next_set, next_empty]; done) | (simp only [next_push, next_set, next_empty]; omega))) | (refine rd_lt hA' _ ?_; (first | omega | (simp only [next_push, next_set, next_empty]; done) | (simp only [next_push, next_set, next_empty]; omega))) | (refine rd_lt hB' _ ?_; (first | omega | (simp only [next_push, next_set, next_empty]; done) | (simp only [next_push, next_set, next_empty]; omega))) | (refine rd_lt hC' _ ?_; (first | omega | (simp only [next_push, next_set, next_empty]; done) | (simp only [next_push, next_set, next_empty]; omega)))); done))) | (apply Kinds3.nw 2; (focus (first | omega | (simp only [next_push, next_set, next_empty]; done) | (simp only [next_push, next_set, next_empty]; omega))); (focus ((first | exact bits0 | (refine bits1 ?_; (first | omega | (simp only [next_push, next_set, next_empty]; done) | (simp only [next_push, next_set, next_empty]; omega))) | (refine rd_lt hA' _ ?_; (first | omega | (simp only [next_push, next_set, next_empty]; done) | (simp only [next_push, next_set, next_empty]; omega))) | (refine rd_lt hB' _ ?_; (first | omega | (simp only [next_push, next_set, next_empty]; done) | (simp only [next_push, next_set, next_empty]; omega))) | (refine rd_lt hC' _ ?_; (first | omega | (simp only [next_push, next_set, next_empty]; done) | (simp only [next_push, next_set, next_empty]; omega)))); done))) | (apply Kinds3.ra; (focus (first | exact RoT.zero | exact RoT.rd | exact RoT.all | exact RoT.rdTr _ | assumption))) | apply Kinds3.any)); done)); decide +kernel)
       | (refine V.condT rfl ?_)
       | (refine V.condF rfl ?_)
       | (refine V.cond rfl (fun h => ?_) (fun h => ?_) <;> (try simp only [decide_eq_true_eq, decide_eq_false_iff_not, Bool.and_eq_true, Bool.or_eq_true, Bool.and_eq_false_iff, Bool.or_eq_false_iff, Bool.not_eq_true', Bool.not_eq_false', Bool.not_true, Bool.not_false, Classical.not_not, Int.not_lt, Int.not_le, reduceCtorEq, not_true_eq_false, not_false_eq_true, decide_true, decide_false, Int.reduceEq, Int.reduceLT, Int.reduceLE] at h) <;> (try (exfalso; omega)))
        | (refine FnQ.ret (res1 Tryz.results7) (by simp only [Nat.reduceDiv, Nat.reduceMod, get_nthS, nthS_zero, nthS_succ]; rfl) ?_; (try dsimp only)))
      all_goals first
        | (refine LoopF.again (r.length - (i + 1)) (by rfl) (by omega) ⟨i + 1, _, rfl, rfl, by omega⟩)
        | (exfalso; rename_i h; exact h (Ce.eqv.1 (era_in (by omega) i (by omega) (by omega))))
        | (exfalso; rename_i h; apply h; rw [era_out (by omega) (by omega) i (by omega) (by omega) (by omega) (by omega)]; exact ⟨rfl, rfl, rfl⟩)
        | (rintro x tr2 htr2 (⟨hok2, A3, rfl, hC'⟩ | ⟨hno, rfl⟩)
           · have hid := era_idem (l := r) (a := a.toNat) (b := b.toNat) (by omega)
             have hw := eraW_idem r wr a b el.symm
             rw [hid] at hC'
             have hC2 : SlH (((AHeap.empty.push (rblk A1 wr)).push (rblk A2 (eraW r wr a b))).push (rblk A3 (eraW (eraL r a.toNat b.toNat) (eraW r wr a b) a b))) 3 A3 (cesA (eraL r a.toNat b.toNat)) := hC'.push _
             have hB3 : SlH (((AHeap.empty.push (rblk A1 wr)).push (rblk A2 (eraW r wr a b))).push (rblk A3 (eraW (eraL r a.toNat b.toNat) (eraW r wr a b) a b))) 3 A2 (cesA (eraL r a.toNat b.toNat)) := hB2.push _
             have hEq := EqRow_run (ys := []) (lo := 0) (wr := eraW r wr a b) (wr' := eraW (eraL r a.toNat b.toNat) (eraW r wr a b) a b) hB3 hC2 hel hel
             rw [hw] at hEq
             repeat' (first
              | (apply RK.free; rfl)
              | (apply RKy.pl; ((try simp only [go_sem, Nat.reduceDiv, Nat.reduceMod, Nat.reduceAdd, Nat.reduceSub, Nat.reduceEqDiff, Nat.reduceLeDiff, Nat.reduceLT, Nat.reduceMul, reduceIte, Nat.reducePow, Int.reduceEq]); rfl))
              | (apply RKp.op; ((try simp (disch := (first | omega | ((repeat (first | exact Ext.refl _ | assumption | apply Ext.push | (refine Ext.set ?_ (by (first | omega | (simp only [next_push, next_set, next_empty]; done) | (simp only [next_push, next_set, next_empty]; omega))) _))); done) | fail)) only [hw, go_sem, Nat.reduceDiv, Nat.reduceMod, Nat.reduceAdd, Nat.reduceSub, Nat.reduceEqDiff, Nat.reduceLeDiff, Nat.reduceLT, Nat.reduceMul, reduceIte, Nat.reducePow, Int.reduceEq]); (first | rfl | (apply ite_ok; (first | assumption | rfl | omega | (refine ⟨?_, ?_⟩ <;> omega)); rfl))); rfl)
              | (apply RKp.call; (apply hEq <;> (first | assumption | rfl | omega | (refine ⟨?_, ?_⟩ <;> omega))); rfl)
              | (apply RKp.callR; (apply hEq <;> (first | assumption | rfl | omega | (refine ⟨?_, ?_⟩ <;> omega))); rfl; intro tr htr)
              | (apply RKp.callO; (apply hEq <;> (first | assumption | rfl | omega | (refine ⟨?_, ?_⟩ <;> omega))); rfl; intro tr)
              | (apply RKp.callRE; (apply hEq <;> (first | assumption | rfl | omega | (refine ⟨?_, ?_⟩ <;> omega))); (intro x; rfl))
              | (apply RKp.callE; (apply hEq <;> (first | assumption | rfl | omega | (refine ⟨?_, ?_⟩ <;> omega))); (intro x; rfl))
              | (apply RK.guard; rfl; rfl; (simp only [Nat.reduceDiv, Nat.reduceMod, get_nthS, nthS_zero, nthS_succ]; rfl))
              | apply RKg.tt
              | apply RKg.ff
              | (apply RKg.tf; rfl)
              | (apply RKg.ft; rfl)
              | (apply RKg.u; rfl)
              | ((fail_if_success (first | apply RKg.tt | apply RKg.ff | apply RKg.tf | apply RKg.ft | apply RKg.u)); refine RKg.split (fun h => ?_) (fun h => ?_) <;> (try rw [h]) <;> (try simp only [decide_eq_true_eq, decide_eq_false_iff_not, Bool.and_eq_true, Bool.or_eq_true, Bool.and_eq_false_iff, Bool.or_eq_false_iff, Bool.not_eq_true', Bool.not_eq_false', Bool.not_true, Bool.not_false, Classical.not_not, Int.not_lt, Int.not_le, reduceCtorEq, not_true_eq_false, not_false_eq_true, decide_true, decide_false, Int.reduceEq, Int.reduceLT, Int.reduceLE] at h) <;> (try (exfalso; omega)))
              | apply RK.nil
              | apply V.sq
              | apply V.bl
              | apply V.sc
              | apply V.skip
              | apply V.label
              | apply V.ret
              | apply V.exit
              | apply SeqQ.normal
              | apply SeqQ.ret
              | apply SeqQ.exit
              | apply BlockQ.normal
              | apply BlockQ.ret
              | apply BlockQ.here
              | (apply BlockQ.there; decide)
              | apply LoopS.ret
              | apply LoopS.exit
              | apply LoopF.ret
              | apply LoopF.exit
              | apply V.regK
               | (refine V.regdK (by kernel_rfl) ?_)
              | (refine DrawK.mk ?_ ?_; (focus (simp only [List.reverse_cons, List.reverse_nil, List.nil_append, List.cons_append]; decide +kernel)))
              | (apply DrawK.k3; (simp only [List.reverse_cons, List.reverse_nil, List.nil_append, List.cons_append]; rfl); (focus ((repeat (first | exact Kinds3.nil | apply Kinds3.z | (apply Kinds3.ro; (focus ((first | exact bits0 | (refine bits1 ?_; (first | omega | (simp only [next_push, next_set, next_empty]; done) | (simp only [next_push, next_set, next_empty]; omega))) | (refine rd_lt hA' _ ?_; (first | omega | (simp only [next_push, next_set, next_empty]; done) | (simp only [next_push, next_set, next_empty]; omega))) | (refine rd_lt hB' _ ?_; (first | omega | (simp only [next_push, next_set, next_empty]; done) | (simp only [next_push, next_set, next_empty]; omega))) | (refine rd_lt hC' _ ?_; (first | omega | (simp only [next_push, next_set, next_empty]; done) | (simp only [next_push, next_set, next_empty]; omega)))); done))) | (apply Kinds3.rd; (focus ((first | exact bits0 | (refine bits1 ?_; (first | omega | (simp only [next_push, next_set, next_empty]; done) | (simp only [next_push, next_set, next_empty]; omega))) | (refine rd_lt hA' _ ?_; (first | omega | (simp only [next_push, next_set, next_empty]; done) | (simp only [next_push, next_set, next_empty]; omega))) | (refine rd_lt hB' _ ?_; (first | omega | (simp only [next_push, next_set, next_empty]; done) | (simp only [next_push, next_set, next_empty]; omega))) | (refine rd_lt hC' _ ?_; (first | omega | (simp only [next_push, next_set, next_empty]; done) | (simp only [next_push, next_set, next_empty]; omega)))); done))) | (apply Kinds3.nw 0; (focus (first | omega | (simp only [next_push, next_set, next_empty]; done) | (simp only [next_push, next_set, next_empty]; omega))); (focus ((first | exact bits0 | (refine bits1 ?_; (first | omega | (simp only [next_push, next_set, next_empty]; done) | (simp only [next_push, next_set, next_empty]; omega))) | (refine rd_lt hA' _ ?_; (first | omega | (simp only [next_push, next_set, next_empty]; done) | (simp only [next_push, next_set, next_empty]; omega))) | (refine rd_lt hB' _ ?_; (first | omega | (simp only [next_push, next_set, next_empty]; done) | (simp only [next_push, next_set, next_empty]; omega))) | (refine rd_lt hC' _ ?_; (first | omega | (simp only [next_push, next_set, next_empty]; done) | (simp only [next_push, next_set, next_empty]; omega)))); done))) | (apply Kinds3.nw 1; (focus (first | omega | (simp only [next_push, next_set, next_empty]; done) | (simp only [next_push, next_set, next_empty]; omega))); (focus ((first | exact bits0 | (refine bits1 ?_; (first | omega | (simp only [next_push, next_set, next_empty]; done) | (simp only [next_push, next_set, next_empty]; omega))) | (refine rd_lt hA' _ ?_; (first | omega | (simp only [next_push, next_set, next_empty]; done) | (simp only [next_push, next_set, next_empty]; omega))) | (refine rd_lt hB' _ ?_; (first | omega | (simp only [next_push, next_set, next_empty]; done) | (simp only [next_push, next_set, next_empty]; omega))) | (refine rd_lt hC' _ ?_; (first | omega | (simp only [next_push, next_set, next_empty]; done) | (simp only [next_push, next_set, next_empty]; omega)))); done))) | (apply Kinds3.nw 2; (focus (first | omega | (simp only [next_push, next_set, next_empty]; done) | (simp only [next_push, next_set, next_empty]; omega))); (focus ((first | exact bits0 | (refine bits1 ?_; (first | omega | (simp only [next_push, next_set, next_empty]; done) | (simp only [next_push, next_set, next_empty]; omega))) | (refine rd_lt hA' _ ?_; (first | omega | (simp only [next_push, next_set, next_empty]; done) | (simp only [next_push, next_set, next_empty]; omega))) | (refine rd_lt hB' _ ?_; (first | omega | (simp only [next_push, next_set, next_empty]; done) | (simp only [next_push, next_set, next_empty]; omega))) | (refine rd_lt hC' _ ?_; (first | omega | (simp only [next_push, next_set, next_empty]; done) | (simp only [next_push, next_set, next_empty]; omega)))); done))) | (apply Kinds3.ra; (focus (first | exact RoT.zero | exact RoT.rd | exact RoT.all | exact RoT.rdTr _ | assumption))) | apply Kinds3.any)); done)); decide +kernel)
              | (refine V.condT rfl ?_)
              | (refine V.condF rfl ?_)
              | (refine V.cond rfl (fun h => ?_) (fun h => ?_) <;> (try simp only [decide_eq_true_eq, decide_eq_false_iff_not, Bool.and_eq_true, Bool.or_eq_true, Bool.and_eq_false_iff, Bool.or_eq_false_iff, Bool.not_eq_true', Bool.not_eq_false', Bool.not_true, Bool.not_false, Classical.not_not, Int.not_lt, Int.not_le, reduceCtorEq, not_true_eq_false, not_false_eq_true, decide_true, decide_false, Int.reduceEq, Int.reduceLT, Int.reduceLE] at h) <;> (try (exfalso; omega)))
               | (refine FnQ.ret (res1 Tryz.results7) (by simp only [Nat.reduceDiv, Nat.reduceMod, get_nthS, nthS_zero, nthS_succ]; rfl) ?_; (try dsimp only)))
             simp
           · exfalso
             apply hno
             refine ⟨eG, by omega, by omega, by rw [el]; omega⟩)
        | trace_state
  · exfalso
    apply hno
    refine ⟨?_, ?_, ?_, ?_⟩ <;> first | assumption | omega
/-! What came in. -/
theorem wd_cell {d : Nat} {c : List AV} (h : Wd Tryz.prog (d + 2) 61 c) : ∃ x : Ce, c = ceA x ∧ (-2147483648 ≤ x.r ∧ x.r ≤ 2147483647) ∧ (-9223372036854775808 ≤ x.w ∧ x.w ≤ 9223372036854775807) ∧ (-9223372036854775808 ≤ x.a ∧ x.a ≤ 9223372036854775807) := by
  unfold Wd at h
  rw [Tryz.underlying61] at h
  obtain ⟨parts, rfl, hl, hp⟩ := h
  match parts, hl with
  | [p0, p1, p2], _ =>
    have h0 := hp 0 _ p0 rfl rfl
    have h1 := hp 1 _ p1 rfl rfl
    have h2 := hp 2 _ p2 rfl rfl
    simp only [Wd, Tryz.underlying21, Tryz.underlying3] at h0 h1 h2
    obtain ⟨r, rfl, hr⟩ := h0
    obtain ⟨w, rfl, hw⟩ := h1
    obtain ⟨a, rfl, ha⟩ := h2
    exact ⟨⟨r, w, a⟩, rfl, i32_wf hr, i64_wf hw, i64_wf ha⟩
theorem wd_cells {d : Nat} {es : List (List AV)} (h : ∀ c ∈ es, Wd Tryz.prog (d + 2) 61 c) : ∃ l : List Ce, es = cesA l ∧ R32 l := by
  induction es with
  | nil => exact ⟨[], rfl, fun i => by simp⟩
  | cons c r ih =>
    obtain ⟨x, rfl, hx, _⟩ := wd_cell (h c List.mem_cons_self)
    obtain ⟨l, rfl, hl⟩ := ih fun c hc => h c (List.mem_cons_of_mem _ hc)
    refine ⟨x :: l, rfl, fun i => ?_⟩
    cases i with
    | zero => exact hx
    | succ i => exact hl i
theorem wd_row {d : Nat} {u : List AV} (h : Wd Tryz.prog (d + 4) 47 u) : ∃ (A : AV) (l : List Ce) (wr : Bool), u = [A, .v (.bool wr)] ∧ Sl 3 A (cesA l) ∧ l.length < 2 ^ 63 ∧ R32 l := by
  unfold Wd at h
  rw [Tryz.underlying47] at h
  obtain ⟨parts, rfl, hl, hp⟩ := h
  match parts, hl with
  | [p0, p1], _ =>
    have h0 : Wd Tryz.prog (d + 3) 45 p0 := hp 0 _ p0 rfl rfl
    have h1 : Wd Tryz.prog (d + 3) 4 p1 := hp 1 _ p1 rfl rfl
    unfold Wd at h0 h1
    rw [Tryz.underlying45] at h0
    rw [Tryz.underlying4] at h1
    obtain ⟨x, es, rfl, hs, hlen, he⟩ := h0
    obtain ⟨b, rfl⟩ := h1
    obtain ⟨l, rfl, hr⟩ := wd_cells he
    have hc3 : Tryz.prog.cellsOf 61 = 3 := by kernel_rfl
    rw [hc3] at hs
    refine ⟨x, l, b, rfl, hs, ?_, hr⟩
    rw [ces_len] at hlen
    unfold maxLen at hlen; omega
theorem RowSpan_run (u : List AV) (h : Wd Tryz.prog 6 47 u) (a : Int) (ha : (Lit.int .i64 a).wf = true) (b : Int) (hb : (Lit.int .i64 b).wf = true) : WC EZ [] 0 7 [.agg u, .v (.int .i64 a), .v (.int .i64 b)] .empty fun x _ => x = .v (.bool true) := by
  obtain ⟨A, l, wr, rfl, hA, hl, hr⟩ := wd_row h
  exact RowSpan_law hA hl hr a b (i64_wf ha) (i64_wf hb)
end
end Go.Am

namespace Go.Am
open Go.Proofs
set_option maxRecDepth 8000
set_option maxHeartbeats 4000000
def setL (l : List Ce) (col : Int) (m : List Ce) : List Ce := if setOk l col m then putL l col.toNat m else l
def erL (l : List Ce) (a b : Int) : List Ce := if eraOk l a b then eraL l a.toNat b.toNat else l
def erW (l : List Ce) (wr : Bool) (a b : Int) : Bool := if eraOk l a b then eraW l wr a b else wr
theorem SetP.norm {l m : List Ce} {wr : Bool} {A x : AV} {col : Int} (h : SetP l wr A col m x) (hA : Sl 3 A (cesA l)) : ∃ A', x = .tup [rowA A' wr, .v (.bool (decide (setOk l col m)))] ∧ Sl 3 A' (cesA (setL l col m)) := by
  rcases h with ⟨hok, A', rfl, hA'⟩ | ⟨hno, rfl⟩
  · exact ⟨A', by rw [decide_eq_true hok], by unfold setL; rw [if_pos hok]; exact hA'⟩
  · exact ⟨A, by rw [decide_eq_false hno], by unfold setL; rw [if_neg hno]; exact hA⟩
theorem EraP.norm {H : AHeap} {l : List Ce} {wr : Bool} {A x : AV} {a b : Int} (h : EraP H l wr A a b x) (hA : Sl 3 A (cesA l)) : ∃ A', x = .tup [rowA A' (erW l wr a b), .v (.bool (decide (eraOk l a b)))] ∧ SlH H 3 A' (cesA (erL l a b)) := by
  rcases h with ⟨hok, A', rfl, hA'⟩ | ⟨hno, rfl⟩
  · exact ⟨A', by unfold erW; rw [decide_eq_true hok, if_pos hok], by unfold erL; rw [if_pos hok]; exact hA'⟩
  · exact ⟨A, by unfold erW; rw [decide_eq_false hno, if_neg hno], by unfold erL; rw [if_neg hno]; exact .inl hA⟩
theorem R32_put {l m : List Ce} (h : R32 l) (hm : R32 m) (col : Nat) : R32 (putL l col m) := fun i => by
  rcases Nat.lt_or_ge i l.length with hi | hi
  · rw [putL_at _ _ _ _ hi]
    split
    · exact hm _
    · split
      · simp
      · split
        · simp
        · exact h i
  · simp [List.getD_eq_getElem?_getD, List.getElem?_eq_none (by rw [putL_len]; exact hi : (putL l col m).length ≤ i)]
theorem R32_blanks (n : Nat) : R32 (blanks n) := fun i => by
  rcases Nat.lt_or_ge i n with hi | hi
  · rw [blanks_at _ _ hi]; simp
  · simp [List.getD_eq_getElem?_getD, List.getElem?_eq_none (by rw [blanks_len]; exact hi : (blanks n).length ≤ i)]
theorem setL_ok {l m : List Ce} {col : Int} (hl : rowG l) : rowG (setL l col m) := by
  unfold setL
  split
  · rename_i h
    obtain ⟨_, h2, h3, h4⟩ := h
    have := (signI_G h2).len
    exact put_rowG hl _ _ (by omega) (by omega) (sign_cells (signI_G h2))
  · exact hl
theorem erL_ok {l : List Ce} {a b : Int} (hl : rowG l) : rowG (erL l a b) := by
  unfold erL
  split
  · rename_i h
    obtain ⟨_, h2, h3, h4⟩ := h
    exact eraG hl (by omega) (by omega)
  · exact hl
theorem setL_R {l m : List Ce} {col : Int} (h : R32 l) (hm : R32 m) : R32 (setL l col m) := by
  unfold setL; split
  · exact R32_put h hm _
  · exact h
theorem erL_R {l : List Ce} {a b : Int} (h : R32 l) : R32 (erL l a b) := by
  unfold erL eraL; split
  · split
    · exact h
    · exact R32_put h (R32_blanks _) _
  · exact h
theorem setL_len (l m : List Ce) (col : Int) : (setL l col m).length = l.length := by unfold setL; split <;> simp [putL_len]
theorem erL_len (l : List Ce) (a b : Int) : (erL l a b).length = l.length := by unfold erL; split <;> simp [eraL_len]
/-- The first cell, as both tell it. -/
theorem first_alike {l : List Ce} (hl : rowG l) (col : Int) : (if rowG l ∧ l ≠ [] then (if (l.getD (min (max col 0) (l.length - 1)).toNat zeroC).w = 0 then min (max col 0) (l.length - 1) - 1 else min (max col 0) (l.length - 1)) else (0 : Int)) = (if 0 < max 0 (min col (l.length - 1)) ∧ max 0 (min col (l.length - 1)) < l.length ∧ (l.getD (max 0 (min col (l.length - 1))).toNat zeroC).w = 0 then max 0 (min col (l.length - 1)) - 1 else max 0 (min col ((l.length : Int) - 1))) := by
  by_cases h0 : l = []
  · subst h0
    simp; omega
  · have hp : 0 < l.length := List.length_pos_iff.2 h0
    have e : max 0 (min col ((l.length : Int) - 1)) = min (max col 0) (l.length - 1) := by omega
    rw [if_pos ⟨hl, h0⟩, e]
    by_cases hw : (l.getD (min (max col 0) ((l.length : Int) - 1)).toNat zeroC).w = 0
    · have := ((hl.2 (min (max col 0) ((l.length : Int) - 1)).toNat (by omega)).2.1 hw).1
      rw [if_pos hw, if_pos ⟨by omega, by omega, hw⟩]
    · rw [if_neg hw, if_neg (fun z => hw z.2.2)]
section
variable {A B : AV} {l m : List Ce} {wr : Bool}
theorem RowAll_law (hA : Sl 3 A (cesA l)) (hl : l.length < 2 ^ 63) (h32 : R32 l) (hB : Sl 3 B (cesA m)) (hm : m.length < 2 ^ 63) (h32m : R32 m) (col a b w : Int) (hc : -9223372036854775808 ≤ col ∧ col ≤ 9223372036854775807) (ha : -9223372036854775808 ≤ a ∧ a ≤ 9223372036854775807) (hb : -9223372036854775808 ≤ b ∧ b ≤ 9223372036854775807) (hw : -9223372036854775808 ≤ w ∧ w ≤ 9223372036854775807) :
    WC EZ [] 0 5 [rowA A wr, .v (.int .i64 col), B, .v (.int .i64 a), .v (.int .i64 b), .v (.int .i64 w)] .empty fun x _ => x = .v (.bool true) := by
  have hA0 : ∀ H, SlH H 3 A (cesA l) := fun H => .inl hA
  have b1 := fun H => len_cell (H := H) (A := B) (l := m) 0 (.inl hB)
  have b2 := fun H => sl_hi (H := H) (A := B) (l := m) 0 (.inl hB)
  have e1 : (min (m.length : Int) 4).toNat = min m.length 4 := by omega
  have hz : rdTr B = ⟨0, 0, 0⟩ := by rcases hB with rfl | ⟨_, rfl | rfl⟩ <;> rfl
  have hl4 := fun H => law4Row_run (ys := []) (lo := 0) (H := H) (wr := wr) (hA0 H) hl
  refine WC.enter Tryz.func5 rfl (Nat.le_of_ble_eq_true rfl) (by simp only [Slots.of, Tryz.ntmps5, Nat.reduceAdd, Nat.reduceDiv, rows8P, row8]; rfl) ?_
  repeat' (first
   | (apply RK.free; rfl)
   | (apply RKy.pl; ((try simp only [go_sem, Nat.reduceDiv, Nat.reduceMod, Nat.reduceAdd, Nat.reduceSub, Nat.reduceEqDiff, Nat.reduceLeDiff, Nat.reduceLT, Nat.reduceMul, reduceIte, Nat.reducePow, Int.reduceEq]); rfl))
   | (apply RKp.op; ((try simp (disch := (first | omega | ((repeat (first | exact Ext.refl _ | assumption | apply Ext.push | (refine Ext.set ?_ (by (first | omega | (simp only [next_push, next_set, next_empty]; done) | (simp only [next_push, next_set, next_empty]; omega))) _))); done) | fail)) only [b1, b2, hz, e1, go_sem, Nat.reduceDiv, Nat.reduceMod, Nat.reduceAdd, Nat.reduceSub, Nat.reduceEqDiff, Nat.reduceLeDiff, Nat.reduceLT, Nat.reduceMul, reduceIte, Nat.reducePow, Int.reduceEq]); (first | rfl | (apply ite_ok; (first | assumption | rfl | omega | (refine ⟨?_, ?_⟩ <;> omega) | ((repeat (first | exact Ext.refl _ | assumption | apply Ext.push | (refine Ext.set ?_ (by (first | omega | (simp only [next_push, next_set, next_empty]; done) | (simp only [next_push, next_set, next_empty]; omega))) _))); done)); rfl))); rfl)
   | (apply RKp.call; ((first | apply begun_R | apply hl4) <;> (first | assumption | rfl | omega | (refine ⟨?_, ?_⟩ <;> omega) | ((repeat (first | exact Ext.refl _ | assumption | apply Ext.push | (refine Ext.set ?_ (by (first | omega | (simp only [next_push, next_set, next_empty]; done) | (simp only [next_push, next_set, next_empty]; omega))) _))); done))); rfl)
   | (apply RKp.callR; ((first | apply begun_R | apply hl4) <;> (first | assumption | rfl | omega | (refine ⟨?_, ?_⟩ <;> omega) | ((repeat (first | exact Ext.refl _ | assumption | apply Ext.push | (refine Ext.set ?_ (by (first | omega | (simp only [next_push, next_set, next_empty]; done) | (simp only [next_push, next_set, next_empty]; omega))) _))); done))); rfl; intro tr htr)
   | (apply RKp.callO; ((first | apply begun_R | apply hl4) <;> (first | assumption | rfl | omega | (refine ⟨?_, ?_⟩ <;> omega) | ((repeat (first | exact Ext.refl _ | assumption | apply Ext.push | (refine Ext.set ?_ (by (first | omega | (simp only [next_push, next_set, next_empty]; done) | (simp only [next_push, next_set, next_empty]; omega))) _))); done))); rfl; intro tr)
   | (apply RKp.callRE; ((first | apply begun_R | apply hl4) <;> (first | assumption | rfl | omega | (refine ⟨?_, ?_⟩ <;> omega) | ((repeat (first | exact Ext.refl _ | assumption | apply Ext.push | (refine Ext.set ?_ (by (first | omega | (simp only [next_push, next_set, next_empty]; done) | (simp only [next_push, next_set, next_empty]; omega))) _))); done))); (intro x; rfl))
   | (apply RKp.callE; ((first | apply begun_R | apply hl4) <;> (first | assumption | rfl | omega | (refine ⟨?_, ?_⟩ <;> omega) | ((repeat (first | exact Ext.refl _ | assumption | apply Ext.push | (refine Ext.set ?_ (by (first | omega | (simp only [next_push, next_set, next_empty]; done) | (simp only [next_push, next_set, next_empty]; omega))) _))); done))); (intro x; rfl))
   | (apply RK.guard; rfl; rfl; (simp only [Nat.reduceDiv, Nat.reduceMod, get_nthS, nthS_zero, nthS_succ]; rfl))
   | apply RKg.tt
   | apply RKg.ff
   | (apply RKg.tf; rfl)
   | (apply RKg.ft; rfl)
   | (apply RKg.u; rfl)
   | ((fail_if_success (first | apply RKg.tt | apply RKg.ff | apply RKg.tf | apply RKg.ft | apply RKg.u)); refine RKg.split (fun h => ?_) (fun h => ?_) <;> (try rw [h]) <;> (try simp only [decide_eq_true_eq, decide_eq_false_iff_not, Bool.and_eq_true, Bool.or_eq_true, Bool.and_eq_false_iff, Bool.or_eq_false_iff, Bool.not_eq_true', Bool.not_eq_false', Bool.not_true, Bool.not_false, Classical.not_not, Int.not_lt, Int.not_le, reduceCtorEq, not_true_eq_false, not_false_eq_true, decide_true, decide_false, Int.reduceEq, Int.reduceLT, Int.reduceLE] at h) <;> (try (exfalso; omega)))
   | apply RK.nil
   | apply V.sq
   | apply V.bl
   | apply V.sc
   | apply V.skip
   | apply V.label
   | apply V.ret
   | apply V.exit
   | apply SeqQ.normal
   | apply SeqQ.ret
   | apply SeqQ.exit
   | apply BlockQ.normal
   | apply BlockQ.ret
   | apply BlockQ.here
   | (apply BlockQ.there; decide)
   | apply LoopS.ret
   | apply LoopS.exit
   | apply LoopF.ret
   | apply LoopF.exit
   | apply V.regK
    | (refine V.regdK (by kernel_rfl) ?_)
   | (refine DrawK.mk ?_ ?_; (focus (simp only [List.reverse_cons, List.reverse_nil, List.nil_append, List.cons_append]; decide +kernel)))
   | (apply DrawK.k3; (simp only [List.reverse_cons, List.reverse_nil, List.nil_append, List.cons_append]; rfl); (focus ((repeat (first | exact Kinds3.nil | apply Kinds3.z | (apply Kinds3.ro; (focus ((first | exact bits0 | (refine bits1 ?_; (first | omega | (simp only [next_push, next_set, next_empty]; done) | (simp only [next_push, next_set, next_empty]; omega))) | (refine rd_lt hA' _ ?_; (first | omega | (simp only [next_push, next_set, next_empty]; done) | (simp only [next_push, next_set, next_empty]; omega))) | (refine rd_lt hB' _ ?_; (first | omega | (simp only [next_push, next_set, next_empty]; done) | (simp only [next_push, next_set, next_empty]; omega))) | (refine rd_lt hC' _ ?_; (first | omega | (simp only [next_push, next_set, next_empty]; done) | (simp only [next_push, next_set, next_empty]; omega)))); done))) | (apply Kinds3.rd; (focus ((first | exact bits0 | (refine bits1 ?_; (first | omega | (simp only [next_push, next_set, next_empty]; done) | (simp only [next_push, next_set, next_empty]; omega))) | (refine rd_lt hA' _ ?_; (first | omega | (simp only [next_push, next_set, next_empty]; done) | (simp only [next_push, next_set, next_empty]; omega))) | (refine rd_lt hB' _ ?_; (first | omega | (simp only [next_push, next_set, next_empty]; done) | (simp only [next_push, next_set, next_empty]; omega))) | (refine rd_lt hC' _ ?_; (first | omega | (simp only [next_push, next_set, next_empty]; done) | (simp only [next_push, next_set, next_empty]; omega)))); done))) | (apply Kinds3.nw 0; (focus (first | omega | (simp only [next_push, next_set, next_empty]; done) | (simp only [next_push, next_set, next_empty]; omega))); (focus ((first | exact bits0 | (refine bits1 ?_; (first | omega | (simp only [next_push, next_set, next_empty]; done) | (simp only [next_push, next_set, next_empty]; omega))) | (refine rd_lt hA' _ ?_; (first | omega | (simp only [next_push, next_set, next_empty]; done) | (simp only [next_push, next_set, next_empty]; omega))) | (refine rd_lt hB' _ ?_; (first | omega | (simp only [next_push, next_set, next_empty]; done) | (simp only [next_push, next_set, next_empty]; omega))) | (refine rd_lt hC' _ ?_; (first | omega | (simp only [next_push, next_set, next_empty]; done) | (simp only [next_push, next_set, next_empty]; omega)))); done))) | (apply Kinds3.nw 1; (focus (first | omega | (simp only [next_push, next_set, next_empty]; done) | (simp only [next_push, next_set, next_empty]; omega))); (focus ((first | exact bits0 | (refine bits1 ?_; (first | omega | (simp only [next_push, next_set, next_empty]; done) | (simp only [next_push, next_set, next_empty]; omega))) | (refine rd_lt hA' _ ?_; (first | omega | (simp only [next_push, next_set, next_empty]; done) | (simp only [next_push, next_set, next_empty]; omega))) | (refine rd_lt hB' _ ?_; (first | omega | (simp only [next_push, next_set, next_empty]; done) | (simp only [next_push, next_set, next_empty]; omega))) | (refine rd_lt hC' _ ?_; (first | omega | (simp only [next_push, next_set, next_empty]; done) | (simp only [next_push, next_set, next_empty]; omega)))); done))) | (apply Kinds3.nw 2; (focus (first | omega | (simp only [next_push, next_set, next_empty]; done) | (simp only [next_push, next_set, next_empty]; omega))); (focus ((first | exact bits0 | (refine bits1 ?_; (first | omega | (simp only [next_push, next_set, next_empty]; done) | (simp only [next_push, next_set, next_empty]; omega))) | (refine rd_lt hA' _ ?_; (first | omega | (simp only [next_push, next_set, next_empty]; done) | (simp only [next_push, next_set, next_empty]; omega))) | (refine rd_lt hB' _ ?_; (first | omega | (simp only [next_push, next_set, next_empty]; done) | (simp only [next_push, next_set, next_empty]; omega))) | (refine rd_lt hC' _ ?_; (first | omega | (simp only [next_push, next_set, next_empty]; done) | (simp only [next_push, next_set, next_empty]; omega)))); done))) | (apply Kinds3.ra; (focus (first | exact RoT.zero | exact RoT.rd | exact RoT.all | exact RoT.rdTr _ | assumption))) | apply Kinds3.any)); done)); decide +kernel)
   | (refine V.condT rfl ?_)
   | (refine V.condF rfl ?_)
   | (refine V.cond rfl (fun h => ?_) (fun h => ?_) <;> (try simp only [decide_eq_true_eq, decide_eq_false_iff_not, Bool.and_eq_true, Bool.or_eq_true, Bool.and_eq_false_iff, Bool.or_eq_false_iff, Bool.not_eq_true', Bool.not_eq_false', Bool.not_true, Bool.not_false, Classical.not_not, Int.not_lt, Int.not_le, reduceCtorEq, not_true_eq_false, not_false_eq_true, decide_true, decide_false, Int.reduceEq, Int.reduceLT, Int.reduceLE] at h) <;> (try (exfalso; omega)))
    | (refine FnQ.ret (res1 Tryz.results5) (by simp only [Nat.reduceDiv, Nat.reduceMod, get_nthS, nthS_zero, nthS_succ]; rfl) ?_; (try dsimp only)))
  rintro x tr htr ⟨A1, rfl, hA1⟩
  have hq : (l.take 310).length < 2 ^ 40 := by rw [List.length_take]; omega
  have h32' := R32_take h32 310
  generalize l.take 310 = r at *
  have hB1 : Sl 3 (cutA B 0 (min m.length 4)) (cesA (m.take (min m.length 4))) := by
    have := cutA_Sl (lo := 0) (hi := min m.length 4) hB
    rw [ces_take] at this; exact this
  have hqm : (m.take (min m.length 4)).length < 2 ^ 40 := by rw [List.length_take]; omega
  have h32n := R32_take h32m (min m.length 4)
  generalize m.take (min m.length 4) = n at *
  generalize hBe : cutA B 0 (min m.length 4) = B1 at *
  have hSet := fun H => Set_run (ys := []) (lo := 0) (H := H) (wr := wr) (.inl hA1) (.inl hB1) hq hqm col hc
  have hRSet := fun H => refSet_run (ys := []) (lo := 0) (H := H) (wr := wr) (.inl hA1) (.inl hB1) hq hqm h32' h32n col hc
  have hEra := fun H => Erase_run (ys := []) (lo := 0) (H := H) (wr := wr) (.inl hA1) hq a b ha hb
  have hREra := fun H => refErase_run (ys := []) (lo := 0) (H := H) (wr := wr) (.inl hA1) hq h32' a b ha hb
  have hRow := fun H => Row_R (ys := []) (lo := 0) (H := H) (wr := wr) (.inl hA1) hq h32'
  repeat' (first
   | (apply RK.free; rfl)
   | (apply RKy.pl; ((try simp only [go_sem, Nat.reduceDiv, Nat.reduceMod, Nat.reduceAdd, Nat.reduceSub, Nat.reduceEqDiff, Nat.reduceLeDiff, Nat.reduceLT, Nat.reduceMul, reduceIte, Nat.reducePow, Int.reduceEq]); rfl))
   | (apply RKp.op; ((try simp (disch := (first | omega | ((repeat (first | exact Ext.refl _ | assumption | apply Ext.push | (refine Ext.set ?_ (by (first | omega | (simp only [next_push, next_set, next_empty]; done) | (simp only [next_push, next_set, next_empty]; omega))) _))); done) | fail)) only [b1, b2, hz, e1, hBe, go_sem, Nat.reduceDiv, Nat.reduceMod, Nat.reduceAdd, Nat.reduceSub, Nat.reduceEqDiff, Nat.reduceLeDiff, Nat.reduceLT, Nat.reduceMul, reduceIte, Nat.reducePow, Int.reduceEq]); (first | rfl | (apply ite_ok; (first | assumption | rfl | omega | (refine ⟨?_, ?_⟩ <;> omega) | ((repeat (first | exact Ext.refl _ | assumption | apply Ext.push | (refine Ext.set ?_ (by (first | omega | (simp only [next_push, next_set, next_empty]; done) | (simp only [next_push, next_set, next_empty]; omega))) _))); done)); rfl))); rfl)
   | (apply RKp.call; (apply hSet <;> (first | assumption | rfl | omega | (refine ⟨?_, ?_⟩ <;> omega) | ((repeat (first | exact Ext.refl _ | assumption | apply Ext.push | (refine Ext.set ?_ (by (first | omega | (simp only [next_push, next_set, next_empty]; done) | (simp only [next_push, next_set, next_empty]; omega))) _))); done))); rfl)
   | (apply RKp.callR; (apply hSet <;> (first | assumption | rfl | omega | (refine ⟨?_, ?_⟩ <;> omega) | ((repeat (first | exact Ext.refl _ | assumption | apply Ext.push | (refine Ext.set ?_ (by (first | omega | (simp only [next_push, next_set, next_empty]; done) | (simp only [next_push, next_set, next_empty]; omega))) _))); done))); rfl; intro tr htr)
   | (apply RKp.callO; (apply hSet <;> (first | assumption | rfl | omega | (refine ⟨?_, ?_⟩ <;> omega) | ((repeat (first | exact Ext.refl _ | assumption | apply Ext.push | (refine Ext.set ?_ (by (first | omega | (simp only [next_push, next_set, next_empty]; done) | (simp only [next_push, next_set, next_empty]; omega))) _))); done))); rfl; intro tr)
   | (apply RKp.callRE; (apply hSet <;> (first | assumption | rfl | omega | (refine ⟨?_, ?_⟩ <;> omega) | ((repeat (first | exact Ext.refl _ | assumption | apply Ext.push | (refine Ext.set ?_ (by (first | omega | (simp only [next_push, next_set, next_empty]; done) | (simp only [next_push, next_set, next_empty]; omega))) _))); done))); (intro x; rfl))
   | (apply RKp.callE; (apply hSet <;> (first | assumption | rfl | omega | (refine ⟨?_, ?_⟩ <;> omega) | ((repeat (first | exact Ext.refl _ | assumption | apply Ext.push | (refine Ext.set ?_ (by (first | omega | (simp only [next_push, next_set, next_empty]; done) | (simp only [next_push, next_set, next_empty]; omega))) _))); done))); (intro x; rfl))
   | (apply RK.guard; rfl; rfl; (simp only [Nat.reduceDiv, Nat.reduceMod, get_nthS, nthS_zero, nthS_succ]; rfl))
   | apply RKg.tt
   | apply RKg.ff
   | (apply RKg.tf; rfl)
   | (apply RKg.ft; rfl)
   | (apply RKg.u; rfl)
   | ((fail_if_success (first | apply RKg.tt | apply RKg.ff | apply RKg.tf | apply RKg.ft | apply RKg.u)); refine RKg.split (fun h => ?_) (fun h => ?_) <;> (try rw [h]) <;> (try simp only [decide_eq_true_eq, decide_eq_false_iff_not, Bool.and_eq_true, Bool.or_eq_true, Bool.and_eq_false_iff, Bool.or_eq_false_iff, Bool.not_eq_true', Bool.not_eq_false', Bool.not_true, Bool.not_false, Classical.not_not, Int.not_lt, Int.not_le, reduceCtorEq, not_true_eq_false, not_false_eq_true, decide_true, decide_false, Int.reduceEq, Int.reduceLT, Int.reduceLE] at h) <;> (try (exfalso; omega)))
   | apply RK.nil
   | apply V.sq
   | apply V.bl
   | apply V.sc
   | apply V.skip
   | apply V.label
   | apply V.ret
   | apply V.exit
   | apply SeqQ.normal
   | apply SeqQ.ret
   | apply SeqQ.exit
   | apply BlockQ.normal
   | apply BlockQ.ret
   | apply BlockQ.here
   | (apply BlockQ.there; decide)
   | apply LoopS.ret
   | apply LoopS.exit
   | apply LoopF.ret
   | apply LoopF.exit
   | apply V.regK
    | (refine V.regdK (by kernel_rfl) ?_)
   | (refine DrawK.mk ?_ ?_; (focus (simp only [List.reverse_cons, List.reverse_nil, List.nil_append, List.cons_append]; decide +kernel)))
   | (apply DrawK.k3; (simp only [List.reverse_cons, List.reverse_nil, List.nil_append, List.cons_append]; rfl); (focus ((repeat (first | exact Kinds3.nil | apply Kinds3.z | (apply Kinds3.ro; (focus ((first | exact bits0 | (refine bits1 ?_; (first | omega | (simp only [next_push, next_set, next_empty]; done) | (simp only [next_push, next_set, next_empty]; omega))) | (refine rd_lt hA' _ ?_; (first | omega | (simp only [next_push, next_set, next_empty]; done) | (simp only [next_push, next_set, next_empty]; omega))) | (refine rd_lt hB' _ ?_; (first | omega | (simp only [next_push, next_set, next_empty]; done) | (simp only [next_push, next_set, next_empty]; omega))) | (refine rd_lt hC' _ ?_; (first | omega | (simp only [next_push, next_set, next_empty]; done) | (simp only [next_push, next_set, next_empty]; omega)))); done))) | (apply Kinds3.rd; (focus ((first | exact bits0 | (refine bits1 ?_; (first | omega | (simp only [next_push, next_set, next_empty]; done) | (simp only [next_push, next_set, next_empty]; omega))) | (refine rd_lt hA' _ ?_; (first | omega | (simp only [next_push, next_set, next_empty]; done) | (simp only [next_push, next_set, next_empty]; omega))) | (refine rd_lt hB' _ ?_; (first | omega | (simp only [next_push, next_set, next_empty]; done) | (simp only [next_push, next_set, next_empty]; omega))) | (refine rd_lt hC' _ ?_; (first | omega | (simp only [next_push, next_set, next_empty]; done) | (simp only [next_push, next_set, next_empty]; omega)))); done))) | (apply Kinds3.nw 0; (focus (first | omega | (simp only [next_push, next_set, next_empty]; done) | (simp only [next_push, next_set, next_empty]; omega))); (focus ((first | exact bits0 | (refine bits1 ?_; (first | omega | (simp only [next_push, next_set, next_empty]; done) | (simp only [next_push, next_set, next_empty]; omega))) | (refine rd_lt hA' _ ?_; (first | omega | (simp only [next_push, next_set, next_empty]; done) | (simp only [next_push, next_set, next_empty]; omega))) | (refine rd_lt hB' _ ?_; (first | omega | (simp only [next_push, next_set, next_empty]; done) | (simp only [next_push, next_set, next_empty]; omega))) | (refine rd_lt hC' _ ?_; (first | omega | (simp only [next_push, next_set, next_empty]; done) | (simp only [next_push, next_set, next_empty]; omega)))); done))) | (apply Kinds3.nw 1; (focus (first | omega | (simp only [next_push, next_set, next_empty]; done) | (simp only [next_push, next_set, next_empty]; omega))); (focus ((first | exact bits0 | (refine bits1 ?_; (first | omega | (simp only [next_push, next_set, next_empty]; done) | (simp only [next_push, next_set, next_empty]; omega))) | (refine rd_lt hA' _ ?_; (first | omega | (simp only [next_push, next_set, next_empty]; done) | (simp only [next_push, next_set, next_empty]; omega))) | (refine rd_lt hB' _ ?_; (first | omega | (simp only [next_push, next_set, next_empty]; done) | (simp only [next_push, next_set, next_empty]; omega))) | (refine rd_lt hC' _ ?_; (first | omega | (simp only [next_push, next_set, next_empty]; done) | (simp only [next_push, next_set, next_empty]; omega)))); done))) | (apply Kinds3.nw 2; (focus (first | omega | (simp only [next_push, next_set, next_empty]; done) | (simp only [next_push, next_set, next_empty]; omega))); (focus ((first | exact bits0 | (refine bits1 ?_; (first | omega | (simp only [next_push, next_set, next_empty]; done) | (simp only [next_push, next_set, next_empty]; omega))) | (refine rd_lt hA' _ ?_; (first | omega | (simp only [next_push, next_set, next_empty]; done) | (simp only [next_push, next_set, next_empty]; omega))) | (refine rd_lt hB' _ ?_; (first | omega | (simp only [next_push, next_set, next_empty]; done) | (simp only [next_push, next_set, next_empty]; omega))) | (refine rd_lt hC' _ ?_; (first | omega | (simp only [next_push, next_set, next_empty]; done) | (simp only [next_push, next_set, next_empty]; omega)))); done))) | (apply Kinds3.ra; (focus (first | exact RoT.zero | exact RoT.rd | exact RoT.all | exact RoT.rdTr _ | assumption))) | apply Kinds3.any)); done)); decide +kernel)
   | (refine V.condT rfl ?_)
   | (refine V.condF rfl ?_)
   | (refine V.cond rfl (fun h => ?_) (fun h => ?_) <;> (try simp only [decide_eq_true_eq, decide_eq_false_iff_not, Bool.and_eq_true, Bool.or_eq_true, Bool.and_eq_false_iff, Bool.or_eq_false_iff, Bool.not_eq_true', Bool.not_eq_false', Bool.not_true, Bool.not_false, Classical.not_not, Int.not_lt, Int.not_le, reduceCtorEq, not_true_eq_false, not_false_eq_true, decide_true, decide_false, Int.reduceEq, Int.reduceLT, Int.reduceLE] at h) <;> (try (exfalso; omega)))
    | (refine FnQ.ret (res1 Tryz.results5) (by simp only [Nat.reduceDiv, Nat.reduceMod, get_nthS, nthS_zero, nthS_succ]; rfl) ?_; (try dsimp only)))
  rintro x tr htr hP
  obtain ⟨A2, rfl, hA2⟩ := hP.norm hA1
  repeat' (first
   | (apply RK.free; rfl)
   | (apply RKy.pl; ((try simp only [go_sem, Nat.reduceDiv, Nat.reduceMod, Nat.reduceAdd, Nat.reduceSub, Nat.reduceEqDiff, Nat.reduceLeDiff, Nat.reduceLT, Nat.reduceMul, reduceIte, Nat.reducePow, Int.reduceEq]); rfl))
   | (apply RKp.op; ((try simp (disch := (first | omega | ((repeat (first | exact Ext.refl _ | assumption | apply Ext.push | (refine Ext.set ?_ (by (first | omega | (simp only [next_push, next_set, next_empty]; done) | (simp only [next_push, next_set, next_empty]; omega))) _))); done) | fail)) only [go_sem, Nat.reduceDiv, Nat.reduceMod, Nat.reduceAdd, Nat.reduceSub, Nat.reduceEqDiff, Nat.reduceLeDiff, Nat.reduceLT, Nat.reduceMul, reduceIte, Nat.reducePow, Int.reduceEq]); (first | rfl | (apply ite_ok; (first | assumption | rfl | omega | (refine ⟨?_, ?_⟩ <;> omega) | ((repeat (first | exact Ext.refl _ | assumption | apply Ext.push | (refine Ext.set ?_ (by (first | omega | (simp only [next_push, next_set, next_empty]; done) | (simp only [next_push, next_set, next_empty]; omega))) _))); done)); rfl))); rfl)
   | (apply RKp.call; (apply hRSet <;> (first | assumption | rfl | omega | (refine ⟨?_, ?_⟩ <;> omega) | ((repeat (first | exact Ext.refl _ | assumption | apply Ext.push | (refine Ext.set ?_ (by (first | omega | (simp only [next_push, next_set, next_empty]; done) | (simp only [next_push, next_set, next_empty]; omega))) _))); done))); rfl)
   | (apply RKp.callR; (apply hRSet <;> (first | assumption | rfl | omega | (refine ⟨?_, ?_⟩ <;> omega) | ((repeat (first | exact Ext.refl _ | assumption | apply Ext.push | (refine Ext.set ?_ (by (first | omega | (simp only [next_push, next_set, next_empty]; done) | (simp only [next_push, next_set, next_empty]; omega))) _))); done))); rfl; intro tr htr)
   | (apply RKp.callO; (apply hRSet <;> (first | assumption | rfl | omega | (refine ⟨?_, ?_⟩ <;> omega) | ((repeat (first | exact Ext.refl _ | assumption | apply Ext.push | (refine Ext.set ?_ (by (first | omega | (simp only [next_push, next_set, next_empty]; done) | (simp only [next_push, next_set, next_empty]; omega))) _))); done))); rfl; intro tr)
   | (apply RKp.callRE; (apply hRSet <;> (first | assumption | rfl | omega | (refine ⟨?_, ?_⟩ <;> omega) | ((repeat (first | exact Ext.refl _ | assumption | apply Ext.push | (refine Ext.set ?_ (by (first | omega | (simp only [next_push, next_set, next_empty]; done) | (simp only [next_push, next_set, next_empty]; omega))) _))); done))); (intro x; rfl))
   | (apply RKp.callE; (apply hRSet <;> (first | assumption | rfl | omega | (refine ⟨?_, ?_⟩ <;> omega) | ((repeat (first | exact Ext.refl _ | assumption | apply Ext.push | (refine Ext.set ?_ (by (first | omega | (simp only [next_push, next_set, next_empty]; done) | (simp only [next_push, next_set, next_empty]; omega))) _))); done))); (intro x; rfl))
   | (apply RK.guard; rfl; rfl; (simp only [Nat.reduceDiv, Nat.reduceMod, get_nthS, nthS_zero, nthS_succ]; rfl))
   | apply RKg.tt
   | apply RKg.ff
   | (apply RKg.tf; rfl)
   | (apply RKg.ft; rfl)
   | (apply RKg.u; rfl)
   | ((fail_if_success (first | apply RKg.tt | apply RKg.ff | apply RKg.tf | apply RKg.ft | apply RKg.u)); refine RKg.split (fun h => ?_) (fun h => ?_) <;> (try rw [h]) <;> (try simp only [decide_eq_true_eq, decide_eq_false_iff_not, Bool.and_eq_true, Bool.or_eq_true, Bool.and_eq_false_iff, Bool.or_eq_false_iff, Bool.not_eq_true', Bool.not_eq_false', Bool.not_true, Bool.not_false, Classical.not_not, Int.not_lt, Int.not_le, reduceCtorEq, not_true_eq_false, not_false_eq_true, decide_true, decide_false, Int.reduceEq, Int.reduceLT, Int.reduceLE] at h) <;> (try (exfalso; omega)))
   | apply RK.nil
   | apply V.sq
   | apply V.bl
   | apply V.sc
   | apply V.skip
   | apply V.label
   | apply V.ret
   | apply V.exit
   | apply SeqQ.normal
   | apply SeqQ.ret
   | apply SeqQ.exit
   | apply BlockQ.normal
   | apply BlockQ.ret
   | apply BlockQ.here
   | (apply BlockQ.there; decide)
   | apply LoopS.ret
   | apply LoopS.exit
   | apply LoopF.ret
   | apply LoopF.exit
   | apply V.regK
    | (refine V.regdK (by kernel_rfl) ?_)
   | (refine DrawK.mk ?_ ?_; (focus (simp only [List.reverse_cons, List.reverse_nil, List.nil_append, List.cons_append]; decide +kernel)))
   | (apply DrawK.k3; (simp only [List.reverse_cons, List.reverse_nil, List.nil_append, List.cons_append]; rfl); (focus ((repeat (first | exact Kinds3.nil | apply Kinds3.z | (apply Kinds3.ro; (focus ((first | exact bits0 | (refine bits1 ?_; (first | omega | (simp only [next_push, next_set, next_empty]; done) | (simp only [next_push, next_set, next_empty]; omega))) | (refine rd_lt hA' _ ?_; (first | omega | (simp only [next_push, next_set, next_empty]; done) | (simp only [next_push, next_set, next_empty]; omega))) | (refine rd_lt hB' _ ?_; (first | omega | (simp only [next_push, next_set, next_empty]; done) | (simp only [next_push, next_set, next_empty]; omega))) | (refine rd_lt hC' _ ?_; (first | omega | (simp only [next_push, next_set, next_empty]; done) | (simp only [next_push, next_set, next_empty]; omega)))); done))) | (apply Kinds3.rd; (focus ((first | exact bits0 | (refine bits1 ?_; (first | omega | (simp only [next_push, next_set, next_empty]; done) | (simp only [next_push, next_set, next_empty]; omega))) | (refine rd_lt hA' _ ?_; (first | omega | (simp only [next_push, next_set, next_empty]; done) | (simp only [next_push, next_set, next_empty]; omega))) | (refine rd_lt hB' _ ?_; (first | omega | (simp only [next_push, next_set, next_empty]; done) | (simp only [next_push, next_set, next_empty]; omega))) | (refine rd_lt hC' _ ?_; (first | omega | (simp only [next_push, next_set, next_empty]; done) | (simp only [next_push, next_set, next_empty]; omega)))); done))) | (apply Kinds3.nw 0; (focus (first | omega | (simp only [next_push, next_set, next_empty]; done) | (simp only [next_push, next_set, next_empty]; omega))); (focus ((first | exact bits0 | (refine bits1 ?_; (first | omega | (simp only [next_push, next_set, next_empty]; done) | (simp only [next_push, next_set, next_empty]; omega))) | (refine rd_lt hA' _ ?_; (first | omega | (simp only [next_push, next_set, next_empty]; done) | (simp only [next_push, next_set, next_empty]; omega))) | (refine rd_lt hB' _ ?_; (first | omega | (simp only [next_push, next_set, next_empty]; done) | (simp only [next_push, next_set, next_empty]; omega))) | (refine rd_lt hC' _ ?_; (first | omega | (simp only [next_push, next_set, next_empty]; done) | (simp only [next_push, next_set, next_empty]; omega)))); done))) | (apply Kinds3.nw 1; (focus (first | omega | (simp only [next_push, next_set, next_empty]; done) | (simp only [next_push, next_set, next_empty]; omega))); (focus ((first | exact bits0 | (refine bits1 ?_; (first | omega | (simp only [next_push, next_set, next_empty]; done) | (simp only [next_push, next_set, next_empty]; omega))) | (refine rd_lt hA' _ ?_; (first | omega | (simp only [next_push, next_set, next_empty]; done) | (simp only [next_push, next_set, next_empty]; omega))) | (refine rd_lt hB' _ ?_; (first | omega | (simp only [next_push, next_set, next_empty]; done) | (simp only [next_push, next_set, next_empty]; omega))) | (refine rd_lt hC' _ ?_; (first | omega | (simp only [next_push, next_set, next_empty]; done) | (simp only [next_push, next_set, next_empty]; omega)))); done))) | (apply Kinds3.nw 2; (focus (first | omega | (simp only [next_push, next_set, next_empty]; done) | (simp only [next_push, next_set, next_empty]; omega))); (focus ((first | exact bits0 | (refine bits1 ?_; (first | omega | (simp only [next_push, next_set, next_empty]; done) | (simp only [next_push, next_set, next_empty]; omega))) | (refine rd_lt hA' _ ?_; (first | omega | (simp only [next_push, next_set, next_empty]; done) | (simp only [next_push, next_set, next_empty]; omega))) | (refine rd_lt hB' _ ?_; (first | omega | (simp only [next_push, next_set, next_empty]; done) | (simp only [next_push, next_set, next_empty]; omega))) | (refine rd_lt hC' _ ?_; (first | omega | (simp only [next_push, next_set, next_empty]; done) | (simp only [next_push, next_set, next_empty]; omega)))); done))) | (apply Kinds3.ra; (focus (first | exact RoT.zero | exact RoT.rd | exact RoT.all | exact RoT.rdTr _ | assumption))) | apply Kinds3.any)); done)); decide +kernel)
   | (refine V.condT rfl ?_)
   | (refine V.condF rfl ?_)
   | (refine V.cond rfl (fun h => ?_) (fun h => ?_) <;> (try simp only [decide_eq_true_eq, decide_eq_false_iff_not, Bool.and_eq_true, Bool.or_eq_true, Bool.and_eq_false_iff, Bool.or_eq_false_iff, Bool.not_eq_true', Bool.not_eq_false', Bool.not_true, Bool.not_false, Classical.not_not, Int.not_lt, Int.not_le, reduceCtorEq, not_true_eq_false, not_false_eq_true, decide_true, decide_false, Int.reduceEq, Int.reduceLT, Int.reduceLE] at h) <;> (try (exfalso; omega)))
    | (refine FnQ.ret (res1 Tryz.results5) (by simp only [Nat.reduceDiv, Nat.reduceMod, get_nthS, nthS_zero, nthS_succ]; rfl) ?_; (try dsimp only)))
  rintro x tr htr hP2
  obtain ⟨A3, rfl, hA3⟩ := hP2.norm hA1
  repeat' (first
   | (apply RK.free; rfl)
   | (apply RKy.pl; ((try simp only [go_sem, Nat.reduceDiv, Nat.reduceMod, Nat.reduceAdd, Nat.reduceSub, Nat.reduceEqDiff, Nat.reduceLeDiff, Nat.reduceLT, Nat.reduceMul, reduceIte, Nat.reducePow, Int.reduceEq]); rfl))
   | (apply RKp.op; ((try simp (disch := (first | omega | ((repeat (first | exact Ext.refl _ | assumption | apply Ext.push | (refine Ext.set ?_ (by (first | omega | (simp only [next_push, next_set, next_empty]; done) | (simp only [next_push, next_set, next_empty]; omega))) _))); done) | fail)) only [go_sem, Nat.reduceDiv, Nat.reduceMod, Nat.reduceAdd, Nat.reduceSub, Nat.reduceEqDiff, Nat.reduceLeDiff, Nat.reduceLT, Nat.reduceMul, reduceIte, Nat.reducePow, Int.reduceEq]); (first | rfl | (apply ite_ok; (first | assumption | rfl | omega | (refine ⟨?_, ?_⟩ <;> omega) | ((repeat (first | exact Ext.refl _ | assumption | apply Ext.push | (refine Ext.set ?_ (by (first | omega | (simp only [next_push, next_set, next_empty]; done) | (simp only [next_push, next_set, next_empty]; omega))) _))); done)); rfl))); rfl)
   | (apply RKp.call; (apply hEra <;> (first | assumption | rfl | omega | (refine ⟨?_, ?_⟩ <;> omega) | ((repeat (first | exact Ext.refl _ | assumption | apply Ext.push | (refine Ext.set ?_ (by (first | omega | (simp only [next_push, next_set, next_empty]; done) | (simp only [next_push, next_set, next_empty]; omega))) _))); done))); rfl)
   | (apply RKp.callR; (apply hEra <;> (first | assumption | rfl | omega | (refine ⟨?_, ?_⟩ <;> omega) | ((repeat (first | exact Ext.refl _ | assumption | apply Ext.push | (refine Ext.set ?_ (by (first | omega | (simp only [next_push, next_set, next_empty]; done) | (simp only [next_push, next_set, next_empty]; omega))) _))); done))); rfl; intro tr htr)
   | (apply RKp.callO; (apply hEra <;> (first | assumption | rfl | omega | (refine ⟨?_, ?_⟩ <;> omega) | ((repeat (first | exact Ext.refl _ | assumption | apply Ext.push | (refine Ext.set ?_ (by (first | omega | (simp only [next_push, next_set, next_empty]; done) | (simp only [next_push, next_set, next_empty]; omega))) _))); done))); rfl; intro tr)
   | (apply RKp.callRE; (apply hEra <;> (first | assumption | rfl | omega | (refine ⟨?_, ?_⟩ <;> omega) | ((repeat (first | exact Ext.refl _ | assumption | apply Ext.push | (refine Ext.set ?_ (by (first | omega | (simp only [next_push, next_set, next_empty]; done) | (simp only [next_push, next_set, next_empty]; omega))) _))); done))); (intro x; rfl))
   | (apply RKp.callE; (apply hEra <;> (first | assumption | rfl | omega | (refine ⟨?_, ?_⟩ <;> omega) | ((repeat (first | exact Ext.refl _ | assumption | apply Ext.push | (refine Ext.set ?_ (by (first | omega | (simp only [next_push, next_set, next_empty]; done) | (simp only [next_push, next_set, next_empty]; omega))) _))); done))); (intro x; rfl))
   | (apply RK.guard; rfl; rfl; (simp only [Nat.reduceDiv, Nat.reduceMod, get_nthS, nthS_zero, nthS_succ]; rfl))
   | apply RKg.tt
   | apply RKg.ff
   | (apply RKg.tf; rfl)
   | (apply RKg.ft; rfl)
   | (apply RKg.u; rfl)
   | ((fail_if_success (first | apply RKg.tt | apply RKg.ff | apply RKg.tf | apply RKg.ft | apply RKg.u)); refine RKg.split (fun h => ?_) (fun h => ?_) <;> (try rw [h]) <;> (try simp only [decide_eq_true_eq, decide_eq_false_iff_not, Bool.and_eq_true, Bool.or_eq_true, Bool.and_eq_false_iff, Bool.or_eq_false_iff, Bool.not_eq_true', Bool.not_eq_false', Bool.not_true, Bool.not_false, Classical.not_not, Int.not_lt, Int.not_le, reduceCtorEq, not_true_eq_false, not_false_eq_true, decide_true, decide_false, Int.reduceEq, Int.reduceLT, Int.reduceLE] at h) <;> (try (exfalso; omega)))
   | apply RK.nil
   | apply V.sq
   | apply V.bl
   | apply V.sc
   | apply V.skip
   | apply V.label
   | apply V.ret
   | apply V.exit
   | apply SeqQ.normal
   | apply SeqQ.ret
   | apply SeqQ.exit
   | apply BlockQ.normal
   | apply BlockQ.ret
   | apply BlockQ.here
   | (apply BlockQ.there; decide)
   | apply LoopS.ret
   | apply LoopS.exit
   | apply LoopF.ret
   | apply LoopF.exit
   | apply V.regK
    | (refine V.regdK (by kernel_rfl) ?_)
   | (refine DrawK.mk ?_ ?_; (focus (simp only [List.reverse_cons, List.reverse_nil, List.nil_append, List.cons_append]; decide +kernel)))
   | (apply DrawK.k3; (simp only [List.reverse_cons, List.reverse_nil, List.nil_append, List.cons_append]; rfl); (focus ((repeat (first | exact Kinds3.nil | apply Kinds3.z | (apply Kinds3.ro; (focus ((first | exact bits0 | (refine bits1 ?_; (first | omega | (simp only [next_push, next_set, next_empty]; done) | (simp only [next_push, next_set, next_empty]; omega))) | (refine rd_lt hA' _ ?_; (first | omega | (simp only [next_push, next_set, next_empty]; done) | (simp only [next_push, next_set, next_empty]; omega))) | (refine rd_lt hB' _ ?_; (first | omega | (simp only [next_push, next_set, next_empty]; done) | (simp only [next_push, next_set, next_empty]; omega))) | (refine rd_lt hC' _ ?_; (first | omega | (simp only [next_push, next_set, next_empty]; done) | (simp only [next_push, next_set, next_empty]; omega)))); done))) | (apply Kinds3.rd; (focus ((first | exact bits0 | (refine bits1 ?_; (first | omega | (simp only [next_push, next_set, next_empty]; done) | (simp only [next_push, next_set, next_empty]; omega))) | (refine rd_lt hA' _ ?_; (first | omega | (simp only [next_push, next_set, next_empty]; done) | (simp only [next_push, next_set, next_empty]; omega))) | (refine rd_lt hB' _ ?_; (first | omega | (simp only [next_push, next_set, next_empty]; done) | (simp only [next_push, next_set, next_empty]; omega))) | (refine rd_lt hC' _ ?_; (first | omega | (simp only [next_push, next_set, next_empty]; done) | (simp only [next_push, next_set, next_empty]; omega)))); done))) | (apply Kinds3.nw 0; (focus (first | omega | (simp only [next_push, next_set, next_empty]; done) | (simp only [next_push, next_set, next_empty]; omega))); (focus ((first | exact bits0 | (refine bits1 ?_; (first | omega | (simp only [next_push, next_set, next_empty]; done) | (simp only [next_push, next_set, next_empty]; omega))) | (refine rd_lt hA' _ ?_; (first | omega | (simp only [next_push, next_set, next_empty]; done) | (simp only [next_push, next_set, next_empty]; omega))) | (refine rd_lt hB' _ ?_; (first | omega | (simp only [next_push, next_set, next_empty]; done) | (simp only [next_push, next_set, next_empty]; omega))) | (refine rd_lt hC' _ ?_; (first | omega | (simp only [next_push, next_set, next_empty]; done) | (simp only [next_push, next_set, next_empty]; omega)))); done))) | (apply Kinds3.nw 1; (focus (first | omega | (simp only [next_push, next_set, next_empty]; done) | (simp only [next_push, next_set, next_empty]; omega))); (focus ((first | exact bits0 | (refine bits1 ?_; (first | omega | (simp only [next_push, next_set, next_empty]; done) | (simp only [next_push, next_set, next_empty]; omega))) | (refine rd_lt hA' _ ?_; (first | omega | (simp only [next_push, next_set, next_empty]; done) | (simp only [next_push, next_set, next_empty]; omega))) | (refine rd_lt hB' _ ?_; (first | omega | (simp only [next_push, next_set, next_empty]; done) | (simp only [next_push, next_set, next_empty]; omega))) | (refine rd_lt hC' _ ?_; (first | omega | (simp only [next_push, next_set, next_empty]; done) | (simp only [next_push, next_set, next_empty]; omega)))); done))) | (apply Kinds3.nw 2; (focus (first | omega | (simp only [next_push, next_set, next_empty]; done) | (simp only [next_push, next_set, next_empty]; omega))); (focus ((first | exact bits0 | (refine bits1 ?_; (first | omega | (simp only [next_push, next_set, next_empty]; done) | (simp only [next_push, next_set, next_empty]; omega))) | (refine rd_lt hA' _ ?_; (first | omega | (simp only [next_push, next_set, next_empty]; done) | (simp only [next_push, next_set, next_empty]; omega))) | (refine rd_lt hB' _ ?_; (first | omega | (simp only [next_push, next_set, next_empty]; done) | (simp only [next_push, next_set, next_empty]; omega))) | (refine rd_lt hC' _ ?_; (first | omega | (simp only [next_push, next_set, next_empty]; done) | (simp only [next_push, next_set, next_empty]; omega)))); done))) | (apply Kinds3.ra; (focus (first | exact RoT.zero | exact RoT.rd | exact RoT.all | exact RoT.rdTr _ | assumption))) | apply Kinds3.any)); done)); decide +kernel)
   | (refine V.condT rfl ?_)
   | (refine V.condF rfl ?_)
   | (refine V.cond rfl (fun h => ?_) (fun h => ?_) <;> (try simp only [decide_eq_true_eq, decide_eq_false_iff_not, Bool.and_eq_true, Bool.or_eq_true, Bool.and_eq_false_iff, Bool.or_eq_false_iff, Bool.not_eq_true', Bool.not_eq_false', Bool.not_true, Bool.not_false, Classical.not_not, Int.not_lt, Int.not_le, reduceCtorEq, not_true_eq_false, not_false_eq_true, decide_true, decide_false, Int.reduceEq, Int.reduceLT, Int.reduceLE] at h) <;> (try (exfalso; omega)))
    | (refine FnQ.ret (res1 Tryz.results5) (by simp only [Nat.reduceDiv, Nat.reduceMod, get_nthS, nthS_zero, nthS_succ]; rfl) ?_; (try dsimp only)))
  rintro x tr htr hP3
  obtain ⟨A4, rfl, hA4⟩ := hP3.norm hA1
  repeat' (first
   | (apply RK.free; rfl)
   | (apply RKy.pl; ((try simp only [go_sem, Nat.reduceDiv, Nat.reduceMod, Nat.reduceAdd, Nat.reduceSub, Nat.reduceEqDiff, Nat.reduceLeDiff, Nat.reduceLT, Nat.reduceMul, reduceIte, Nat.reducePow, Int.reduceEq]); rfl))
   | (apply RKp.op; ((try simp (disch := (first | omega | ((repeat (first | exact Ext.refl _ | assumption | apply Ext.push | (refine Ext.set ?_ (by (first | omega | (simp only [next_push, next_set, next_empty]; done) | (simp only [next_push, next_set, next_empty]; omega))) _))); done) | fail)) only [go_sem, Nat.reduceDiv, Nat.reduceMod, Nat.reduceAdd, Nat.reduceSub, Nat.reduceEqDiff, Nat.reduceLeDiff, Nat.reduceLT, Nat.reduceMul, reduceIte, Nat.reducePow, Int.reduceEq]); (first | rfl | (apply ite_ok; (first | assumption | rfl | omega | (refine ⟨?_, ?_⟩ <;> omega) | ((repeat (first | exact Ext.refl _ | assumption | apply Ext.push | (refine Ext.set ?_ (by (first | omega | (simp only [next_push, next_set, next_empty]; done) | (simp only [next_push, next_set, next_empty]; omega))) _))); done)); rfl))); rfl)
   | (apply RKp.call; (apply hREra <;> (first | assumption | rfl | omega | (refine ⟨?_, ?_⟩ <;> omega) | ((repeat (first | exact Ext.refl _ | assumption | apply Ext.push | (refine Ext.set ?_ (by (first | omega | (simp only [next_push, next_set, next_empty]; done) | (simp only [next_push, next_set, next_empty]; omega))) _))); done))); rfl)
   | (apply RKp.callR; (apply hREra <;> (first | assumption | rfl | omega | (refine ⟨?_, ?_⟩ <;> omega) | ((repeat (first | exact Ext.refl _ | assumption | apply Ext.push | (refine Ext.set ?_ (by (first | omega | (simp only [next_push, next_set, next_empty]; done) | (simp only [next_push, next_set, next_empty]; omega))) _))); done))); rfl; intro tr htr)
   | (apply RKp.callO; (apply hREra <;> (first | assumption | rfl | omega | (refine ⟨?_, ?_⟩ <;> omega) | ((repeat (first | exact Ext.refl _ | assumption | apply Ext.push | (refine Ext.set ?_ (by (first | omega | (simp only [next_push, next_set, next_empty]; done) | (simp only [next_push, next_set, next_empty]; omega))) _))); done))); rfl; intro tr)
   | (apply RKp.callRE; (apply hREra <;> (first | assumption | rfl | omega | (refine ⟨?_, ?_⟩ <;> omega) | ((repeat (first | exact Ext.refl _ | assumption | apply Ext.push | (refine Ext.set ?_ (by (first | omega | (simp only [next_push, next_set, next_empty]; done) | (simp only [next_push, next_set, next_empty]; omega))) _))); done))); (intro x; rfl))
   | (apply RKp.callE; (apply hREra <;> (first | assumption | rfl | omega | (refine ⟨?_, ?_⟩ <;> omega) | ((repeat (first | exact Ext.refl _ | assumption | apply Ext.push | (refine Ext.set ?_ (by (first | omega | (simp only [next_push, next_set, next_empty]; done) | (simp only [next_push, next_set, next_empty]; omega))) _))); done))); (intro x; rfl))
   | (apply RK.guard; rfl; rfl; (simp only [Nat.reduceDiv, Nat.reduceMod, get_nthS, nthS_zero, nthS_succ]; rfl))
   | apply RKg.tt
   | apply RKg.ff
   | (apply RKg.tf; rfl)
   | (apply RKg.ft; rfl)
   | (apply RKg.u; rfl)
   | ((fail_if_success (first | apply RKg.tt | apply RKg.ff | apply RKg.tf | apply RKg.ft | apply RKg.u)); refine RKg.split (fun h => ?_) (fun h => ?_) <;> (try rw [h]) <;> (try simp only [decide_eq_true_eq, decide_eq_false_iff_not, Bool.and_eq_true, Bool.or_eq_true, Bool.and_eq_false_iff, Bool.or_eq_false_iff, Bool.not_eq_true', Bool.not_eq_false', Bool.not_true, Bool.not_false, Classical.not_not, Int.not_lt, Int.not_le, reduceCtorEq, not_true_eq_false, not_false_eq_true, decide_true, decide_false, Int.reduceEq, Int.reduceLT, Int.reduceLE] at h) <;> (try (exfalso; omega)))
   | apply RK.nil
   | apply V.sq
   | apply V.bl
   | apply V.sc
   | apply V.skip
   | apply V.label
   | apply V.ret
   | apply V.exit
   | apply SeqQ.normal
   | apply SeqQ.ret
   | apply SeqQ.exit
   | apply BlockQ.normal
   | apply BlockQ.ret
   | apply BlockQ.here
   | (apply BlockQ.there; decide)
   | apply LoopS.ret
   | apply LoopS.exit
   | apply LoopF.ret
   | apply LoopF.exit
   | apply V.regK
    | (refine V.regdK (by kernel_rfl) ?_)
   | (refine DrawK.mk ?_ ?_; (focus (simp only [List.reverse_cons, List.reverse_nil, List.nil_append, List.cons_append]; decide +kernel)))
   | (apply DrawK.k3; (simp only [List.reverse_cons, List.reverse_nil, List.nil_append, List.cons_append]; rfl); (focus ((repeat (first | exact Kinds3.nil | apply Kinds3.z | (apply Kinds3.ro; (focus ((first | exact bits0 | (refine bits1 ?_; (first | omega | (simp only [next_push, next_set, next_empty]; done) | (simp only [next_push, next_set, next_empty]; omega))) | (refine rd_lt hA' _ ?_; (first | omega | (simp only [next_push, next_set, next_empty]; done) | (simp only [next_push, next_set, next_empty]; omega))) | (refine rd_lt hB' _ ?_; (first | omega | (simp only [next_push, next_set, next_empty]; done) | (simp only [next_push, next_set, next_empty]; omega))) | (refine rd_lt hC' _ ?_; (first | omega | (simp only [next_push, next_set, next_empty]; done) | (simp only [next_push, next_set, next_empty]; omega)))); done))) | (apply Kinds3.rd; (focus ((first | exact bits0 | (refine bits1 ?_; (first | omega | (simp only [next_push, next_set, next_empty]; done) | (simp only [next_push, next_set, next_empty]; omega))) | (refine rd_lt hA' _ ?_; (first | omega | (simp only [next_push, next_set, next_empty]; done) | (simp only [next_push, next_set, next_empty]; omega))) | (refine rd_lt hB' _ ?_; (first | omega | (simp only [next_push, next_set, next_empty]; done) | (simp only [next_push, next_set, next_empty]; omega))) | (refine rd_lt hC' _ ?_; (first | omega | (simp only [next_push, next_set, next_empty]; done) | (simp only [next_push, next_set, next_empty]; omega)))); done))) | (apply Kinds3.nw 0; (focus (first | omega | (simp only [next_push, next_set, next_empty]; done) | (simp only [next_push, next_set, next_empty]; omega))); (focus ((first | exact bits0 | (refine bits1 ?_; (first | omega | (simp only [next_push, next_set, next_empty]; done) | (simp only [next_push, next_set, next_empty]; omega))) | (refine rd_lt hA' _ ?_; (first | omega | (simp only [next_push, next_set, next_empty]; done) | (simp only [next_push, next_set, next_empty]; omega))) | (refine rd_lt hB' _ ?_; (first | omega | (simp only [next_push, next_set, next_empty]; done) | (simp only [next_push, next_set, next_empty]; omega))) | (refine rd_lt hC' _ ?_; (first | omega | (simp only [next_push, next_set, next_empty]; done) | (simp only [next_push, next_set, next_empty]; omega)))); done))) | (apply Kinds3.nw 1; (focus (first | omega | (simp only [next_push, next_set, next_empty]; done) | (simp only [next_push, next_set, next_empty]; omega))); (focus ((first | exact bits0 | (refine bits1 ?_; (first | omega | (simp only [next_push, next_set, next_empty]; done) | (simp only [next_push, next_set, next_empty]; omega))) | (refine rd_lt hA' _ ?_; (first | omega | (simp only [next_push, next_set, next_empty]; done) | (simp only [next_push, next_set, next_empty]; omega))) | (refine rd_lt hB' _ ?_; (first | omega | (simp only [next_push, next_set, next_empty]; done) | (simp only [next_push, next_set, next_empty]; omega))) | (refine rd_lt hC' _ ?_; (first | omega | (simp only [next_push, next_set, next_empty]; done) | (simp only [next_push, next_set, next_empty]; omega)))); done))) | (apply Kinds3.nw 2; (focus (first | omega | (simp only [next_push, next_set, next_empty]; done) | (simp only [next_push, next_set, next_empty]; omega))); (focus ((first | exact bits0 | (refine bits1 ?_; (first | omega | (simp only [next_push, next_set, next_empty]; done) | (simp only [next_push, next_set, next_empty]; omega))) | (refine rd_lt hA' _ ?_; (first | omega | (simp only [next_push, next_set, next_empty]; done) | (simp only [next_push, next_set, next_empty]; omega))) | (refine rd_lt hB' _ ?_; (first | omega | (simp only [next_push, next_set, next_empty]; done) | (simp only [next_push, next_set, next_empty]; omega))) | (refine rd_lt hC' _ ?_; (first | omega | (simp only [next_push, next_set, next_empty]; done) | (simp only [next_push, next_set, next_empty]; omega)))); done))) | (apply Kinds3.ra; (focus (first | exact RoT.zero | exact RoT.rd | exact RoT.all | exact RoT.rdTr _ | assumption))) | apply Kinds3.any)); done)); decide +kernel)
   | (refine V.condT rfl ?_)
   | (refine V.condF rfl ?_)
   | (refine V.cond rfl (fun h => ?_) (fun h => ?_) <;> (try simp only [decide_eq_true_eq, decide_eq_false_iff_not, Bool.and_eq_true, Bool.or_eq_true, Bool.and_eq_false_iff, Bool.or_eq_false_iff, Bool.not_eq_true', Bool.not_eq_false', Bool.not_true, Bool.not_false, Classical.not_not, Int.not_lt, Int.not_le, reduceCtorEq, not_true_eq_false, not_false_eq_true, decide_true, decide_false, Int.reduceEq, Int.reduceLT, Int.reduceLE] at h) <;> (try (exfalso; omega)))
    | (refine FnQ.ret (res1 Tryz.results5) (by simp only [Nat.reduceDiv, Nat.reduceMod, get_nthS, nthS_zero, nthS_succ]; rfl) ?_; (try dsimp only)))
  rintro x tr htr hP4
  obtain ⟨A5, rfl, hA5⟩ := hP4.norm hA1
  have sl := setL_len r n col
  have el := erL_len r a b
  have hEq1 : ∀ H, CallRo EZ [] 0 27 [rowA A2 wr, rowA A3 wr] H (.v (.bool true)) := fun H => by simpa using EqRow_run (ys := []) (lo := 0) (H := H) (wr := wr) (wr' := wr) (.inl hA2) (.inl hA3) (by rw [sl]; exact hq) (by rw [sl]; exact hq)
  have hEq2 : ∀ H, Ext _ H → Ext _ H → CallRo EZ [] 0 27 [rowA A4 (erW r wr a b), rowA A5 (erW r wr a b)] H (.v (.bool true)) := fun H x1 x2 => by simpa using EqRow_run (ys := []) (lo := 0) (H := H) (wr := erW r wr a b) (wr' := erW r wr a b) (hA4.ext x1) (hA5.ext x2) (by rw [el]; exact hq) (by rw [el]; exact hq)
  have hBl := fun H => rowBlank_run (ys := []) (lo := 0) (H := H) w hw
  have hRBl := fun H => BlankRow_run (ys := []) (lo := 0) (H := H) w hw
  repeat' (first
   | (apply RK.free; rfl)
   | (apply RKy.pl; ((try simp only [go_sem, Nat.reduceDiv, Nat.reduceMod, Nat.reduceAdd, Nat.reduceSub, Nat.reduceEqDiff, Nat.reduceLeDiff, Nat.reduceLT, Nat.reduceMul, reduceIte, Nat.reducePow, Int.reduceEq]); rfl))
   | (apply RKp.op; ((try simp (disch := (first | omega | ((repeat (first | exact Ext.refl _ | assumption | apply Ext.push | (refine Ext.set ?_ (by (first | omega | (simp only [next_push, next_set, next_empty]; done) | (simp only [next_push, next_set, next_empty]; omega))) _))); done) | fail)) only [bne_self_eq_false, go_sem, Nat.reduceDiv, Nat.reduceMod, Nat.reduceAdd, Nat.reduceSub, Nat.reduceEqDiff, Nat.reduceLeDiff, Nat.reduceLT, Nat.reduceMul, reduceIte, Nat.reducePow, Int.reduceEq]); (first | rfl | (apply ite_ok; (first | assumption | rfl | omega | (refine ⟨?_, ?_⟩ <;> omega) | ((repeat (first | exact Ext.refl _ | assumption | apply Ext.push | (refine Ext.set ?_ (by (first | omega | (simp only [next_push, next_set, next_empty]; done) | (simp only [next_push, next_set, next_empty]; omega))) _))); done)); rfl))); rfl)
   | (apply RKp.call; ((first | apply hEq1 | apply hEq2 | apply hBl | apply hRBl) <;> (first | assumption | rfl | omega | (refine ⟨?_, ?_⟩ <;> omega) | ((repeat (first | exact Ext.refl _ | assumption | apply Ext.push | (refine Ext.set ?_ (by (first | omega | (simp only [next_push, next_set, next_empty]; done) | (simp only [next_push, next_set, next_empty]; omega))) _))); done))); rfl)
   | (apply RKp.callR; ((first | apply hEq1 | apply hEq2 | apply hBl | apply hRBl) <;> (first | assumption | rfl | omega | (refine ⟨?_, ?_⟩ <;> omega) | ((repeat (first | exact Ext.refl _ | assumption | apply Ext.push | (refine Ext.set ?_ (by (first | omega | (simp only [next_push, next_set, next_empty]; done) | (simp only [next_push, next_set, next_empty]; omega))) _))); done))); rfl; intro tr htr)
   | (apply RKp.callO; ((first | apply hEq1 | apply hEq2 | apply hBl | apply hRBl) <;> (first | assumption | rfl | omega | (refine ⟨?_, ?_⟩ <;> omega) | ((repeat (first | exact Ext.refl _ | assumption | apply Ext.push | (refine Ext.set ?_ (by (first | omega | (simp only [next_push, next_set, next_empty]; done) | (simp only [next_push, next_set, next_empty]; omega))) _))); done))); rfl; intro tr)
   | (apply RKp.callRE; ((first | apply hEq1 | apply hEq2 | apply hBl | apply hRBl) <;> (first | assumption | rfl | omega | (refine ⟨?_, ?_⟩ <;> omega) | ((repeat (first | exact Ext.refl _ | assumption | apply Ext.push | (refine Ext.set ?_ (by (first | omega | (simp only [next_push, next_set, next_empty]; done) | (simp only [next_push, next_set, next_empty]; omega))) _))); done))); (intro x; rfl))
   | (apply RKp.callE; ((first | apply hEq1 | apply hEq2 | apply hBl | apply hRBl) <;> (first | assumption | rfl | omega | (refine ⟨?_, ?_⟩ <;> omega) | ((repeat (first | exact Ext.refl _ | assumption | apply Ext.push | (refine Ext.set ?_ (by (first | omega | (simp only [next_push, next_set, next_empty]; done) | (simp only [next_push, next_set, next_empty]; omega))) _))); done))); (intro x; rfl))
   | (apply RK.guard; rfl; rfl; (simp only [Nat.reduceDiv, Nat.reduceMod, get_nthS, nthS_zero, nthS_succ]; rfl))
   | apply RKg.tt
   | apply RKg.ff
   | (apply RKg.tf; rfl)
   | (apply RKg.ft; rfl)
   | (apply RKg.u; rfl)
   | ((fail_if_success (first | apply RKg.tt | apply RKg.ff | apply RKg.tf | apply RKg.ft | apply RKg.u)); refine RKg.split (fun h => ?_) (fun h => ?_) <;> (try rw [h]) <;> (try simp only [decide_eq_true_eq, decide_eq_false_iff_not, Bool.and_eq_true, Bool.or_eq_true, Bool.and_eq_false_iff, Bool.or_eq_false_iff, Bool.not_eq_true', Bool.not_eq_false', Bool.not_true, Bool.not_false, Classical.not_not, Int.not_lt, Int.not_le, reduceCtorEq, not_true_eq_false, not_false_eq_true, decide_true, decide_false, Int.reduceEq, Int.reduceLT, Int.reduceLE] at h) <;> (try (exfalso; omega)))
   | apply RK.nil
   | apply V.sq
   | apply V.bl
   | apply V.sc
   | apply V.skip
   | apply V.label
   | apply V.ret
   | apply V.exit
   | apply SeqQ.normal
   | apply SeqQ.ret
   | apply SeqQ.exit
   | apply BlockQ.normal
   | apply BlockQ.ret
   | apply BlockQ.here
   | (apply BlockQ.there; decide)
   | apply LoopS.ret
   | apply LoopS.exit
   | apply LoopF.ret
   | apply LoopF.exit
   | apply V.regK
    | (refine V.regdK (by kernel_rfl) ?_)
   | (refine DrawK.mk ?_ ?_; (focus (simp only [List.reverse_cons, List.reverse_nil, List.nil_append, List.cons_append]; decide +kernel)))
   | (apply DrawK.k3; (simp only [List.reverse_cons, List.reverse_nil, List.nil_append, List.cons_append]; rfl); (focus ((repeat (first | exact Kinds3.nil | apply Kinds3.z | (apply Kinds3.ro; (focus ((first | exact bits0 | (refine bits1 ?_; (first | omega | (simp only [next_push, next_set, next_empty]; done) | (simp only [next_push, next_set, next_empty]; omega))) | (refine rd_lt hA' _ ?_; (first | omega | (simp only [next_push, next_set, next_empty]; done) | (simp only [next_push, next_set, next_empty]; omega))) | (refine rd_lt hB' _ ?_; (first | omega | (simp only [next_push, next_set, next_empty]; done) | (simp only [next_push, next_set, next_empty]; omega))) | (refine rd_lt hC' _ ?_; (first | omega | (simp only [next_push, next_set, next_empty]; done) | (simp only [next_push, next_set, next_empty]; omega)))); done))) | (apply Kinds3.rd; (focus ((first | exact bits0 | (refine bits1 ?_; (first | omega | (simp only [next_push, next_set, next_empty]; done) | (simp only [next_push, next_set, next_empty]; omega))) | (refine rd_lt hA' _ ?_; (first | omega | (simp only [next_push, next_set, next_empty]; done) | (simp only [next_push, next_set, next_empty]; omega))) | (refine rd_lt hB' _ ?_; (first | omega | (simp only [next_push, next_set, next_empty]; done) | (simp only [next_push, next_set, next_empty]; omega))) | (refine rd_lt hC' _ ?_; (first | omega | (simp only [next_push, next_set, next_empty]; done) | (simp only [next_push, next_set, next_empty]; omega)))); done))) | (apply Kinds3.nw 0; (focus (first | omega | (simp only [next_push, next_set, next_empty]; done) | (simp only [next_push, next_set, next_empty]; omega))); (focus ((first | exact bits0 | (refine bits1 ?_; (first | omega | (simp only [next_push, next_set, next_empty]; done) | (simp only [next_push, next_set, next_empty]; omega))) | (refine rd_lt hA' _ ?_; (first | omega | (simp only [next_push, next_set, next_empty]; done) | (simp only [next_push, next_set, next_empty]; omega))) | (refine rd_lt hB' _ ?_; (first | omega | (simp only [next_push, next_set, next_empty]; done) | (simp only [next_push, next_set, next_empty]; omega))) | (refine rd_lt hC' _ ?_; (first | omega | (simp only [next_push, next_set, next_empty]; done) | (simp only [next_push, next_set, next_empty]; omega)))); done))) | (apply Kinds3.nw 1; (focus (first | omega | (simp only [next_push, next_set, next_empty]; done) | (simp only [next_push, next_set, next_empty]; omega))); (focus ((first | exact bits0 | (refine bits1 ?_; (first | omega | (simp only [next_push, next_set, next_empty]; done) | (simp only [next_push, next_set, next_empty]; omega))) | (refine rd_lt hA' _ ?_; (first | omega | (simp only [next_push, next_set, next_empty]; done) | (simp only [next_push, next_set, next_empty]; omega))) | (refine rd_lt hB' _ ?_; (first | omega | (simp only [next_push, next_set, next_empty]; done) | (simp only [next_push, next_set, next_empty]; omega))) | (refine rd_lt hC' _ ?_; (first | omega | (simp only [next_push, next_set, next_empty]; done) | (simp only [next_push, next_set, next_empty]; omega)))); done))) | (apply Kinds3.nw 2; (focus (first | omega | (simp only [next_push, next_set, next_empty]; done) | (simp only [next_push, next_set, next_empty]; omega))); (focus ((first | exact bits0 | (refine bits1 ?_; (first | omega | (simp only [next_push, next_set, next_empty]; done) | (simp only [next_push, next_set, next_empty]; omega))) | (refine rd_lt hA' _ ?_; (first | omega | (simp only [next_push, next_set, next_empty]; done) | (simp only [next_push, next_set, next_empty]; omega))) | (refine rd_lt hB' _ ?_; (first | omega | (simp only [next_push, next_set, next_empty]; done) | (simp only [next_push, next_set, next_empty]; omega))) | (refine rd_lt hC' _ ?_; (first | omega | (simp only [next_push, next_set, next_empty]; done) | (simp only [next_push, next_set, next_empty]; omega)))); done))) | (apply Kinds3.ra; (focus (first | exact RoT.zero | exact RoT.rd | exact RoT.all | exact RoT.rdTr _ | assumption))) | apply Kinds3.any)); done)); decide +kernel)
   | (refine V.condT rfl ?_)
   | (refine V.condF rfl ?_)
   | (refine V.cond rfl (fun h => ?_) (fun h => ?_) <;> (try simp only [decide_eq_true_eq, decide_eq_false_iff_not, Bool.and_eq_true, Bool.or_eq_true, Bool.and_eq_false_iff, Bool.or_eq_false_iff, Bool.not_eq_true', Bool.not_eq_false', Bool.not_true, Bool.not_false, Classical.not_not, Int.not_lt, Int.not_le, reduceCtorEq, not_true_eq_false, not_false_eq_true, decide_true, decide_false, Int.reduceEq, Int.reduceLT, Int.reduceLE] at h) <;> (try (exfalso; omega)))
    | (refine FnQ.ret (res1 Tryz.results5) (by simp only [Nat.reduceDiv, Nat.reduceMod, get_nthS, nthS_zero, nthS_succ]; rfl) ?_; (try dsimp only)))
  · simp at h
  · simp at h
  · rintro x tr htr ⟨A6, rfl, hA6⟩
    have bl : (blanks (min (max w 0) 300).toNat).length < 2 ^ 40 := by rw [blanks_len]; omega
    have hEq3 : ∀ H, CallRo EZ [] 0 27 [rowA (.sl 3 (cesA (blanks (min (max w 0) 300).toNat))) false, rowA A6 false] H (.v (.bool true)) := fun H => by simpa using EqRow_run (ys := []) (lo := 0) (H := H) (wr := false) (wr' := false) (.inl (.inl rfl)) (.inl hA6) bl bl
    have hUs := fun H => Used_run (ys := []) (lo := 0) (H := H) (wr := wr) (.inl hA1) hq
    have hRUs := fun H => refUsed_run (ys := []) (lo := 0) (H := H) (wr := wr) (.inl hA1) hq
    have hIs := fun H => IsBlank_R (ys := []) (lo := 0) (H := H) (wr := wr) (.inl hA1) hq
    have hFi := fun H => First_run (ys := []) (lo := 0) (H := H) (wr := wr) (.inl hA1) hq col hc
    have hRFi := fun H => refFirst_run (ys := []) (lo := 0) (H := H) (wr := wr) (.inl hA1) hq col hc
    have hRowA := fun H => Row_R (ys := []) (lo := 0) (H := H) (wr := wr) (.inl hA2) (by rw [sl]; exact hq) (setL_R h32' h32n)
    have hRowB : ∀ H, Ext _ H → CallRo EZ [] 0 30 [rowA A4 (erW r wr a b)] H (.v (.bool (decide (rowG (erL r a b))))) := fun H x1 => Row_R (ys := []) (lo := 0) (H := H) (wr := erW r wr a b) (hA4.ext x1) (by rw [el]; exact hq) (erL_R h32')
    by_cases hG : rowG r
    · have d1 : decide (rowG r) = true := decide_eq_true hG
      have d2 : decide (rowG (setL r col n)) = true := decide_eq_true (setL_ok hG)
      have d3 : decide (rowG (erL r a b)) = true := decide_eq_true (erL_ok hG)
      have hfa := first_alike hG col
      repeat' (first
       | (apply RK.free; rfl)
       | (apply RKy.pl; ((try simp only [go_sem, Nat.reduceDiv, Nat.reduceMod, Nat.reduceAdd, Nat.reduceSub, Nat.reduceEqDiff, Nat.reduceLeDiff, Nat.reduceLT, Nat.reduceMul, reduceIte, Nat.reducePow, Int.reduceEq]); rfl))
       | (apply RKp.op; ((try simp (disch := (first | omega | ((repeat (first | exact Ext.refl _ | assumption | apply Ext.push | (refine Ext.set ?_ (by (first | omega | (simp only [next_push, next_set, next_empty]; done) | (simp only [next_push, next_set, next_empty]; omega))) _))); done) | fail)) only [d1, d2, d3, if_pos hG, hfa, go_sem, Nat.reduceDiv, Nat.reduceMod, Nat.reduceAdd, Nat.reduceSub, Nat.reduceEqDiff, Nat.reduceLeDiff, Nat.reduceLT, Nat.reduceMul, reduceIte, Nat.reducePow, Int.reduceEq]); (first | rfl | (apply ite_ok; (first | assumption | rfl | omega | (refine ⟨?_, ?_⟩ <;> omega) | ((repeat (first | exact Ext.refl _ | assumption | apply Ext.push | (refine Ext.set ?_ (by (first | omega | (simp only [next_push, next_set, next_empty]; done) | (simp only [next_push, next_set, next_empty]; omega))) _))); done)); rfl))); rfl)
       | (apply RKp.call; ((first | apply hEq3 | apply hRow | apply hUs | apply hRUs | apply hIs | apply hFi | apply hRFi | apply hRowA | apply hRowB) <;> (first | assumption | rfl | omega | (refine ⟨?_, ?_⟩ <;> omega) | ((repeat (first | exact Ext.refl _ | assumption | apply Ext.push | (refine Ext.set ?_ (by (first | omega | (simp only [next_push, next_set, next_empty]; done) | (simp only [next_push, next_set, next_empty]; omega))) _))); done))); rfl)
       | (apply RKp.callR; ((first | apply hEq3 | apply hRow | apply hUs | apply hRUs | apply hIs | apply hFi | apply hRFi | apply hRowA | apply hRowB) <;> (first | assumption | rfl | omega | (refine ⟨?_, ?_⟩ <;> omega) | ((repeat (first | exact Ext.refl _ | assumption | apply Ext.push | (refine Ext.set ?_ (by (first | omega | (simp only [next_push, next_set, next_empty]; done) | (simp only [next_push, next_set, next_empty]; omega))) _))); done))); rfl; intro tr htr)
       | (apply RKp.callO; ((first | apply hEq3 | apply hRow | apply hUs | apply hRUs | apply hIs | apply hFi | apply hRFi | apply hRowA | apply hRowB) <;> (first | assumption | rfl | omega | (refine ⟨?_, ?_⟩ <;> omega) | ((repeat (first | exact Ext.refl _ | assumption | apply Ext.push | (refine Ext.set ?_ (by (first | omega | (simp only [next_push, next_set, next_empty]; done) | (simp only [next_push, next_set, next_empty]; omega))) _))); done))); rfl; intro tr)
       | (apply RKp.callRE; ((first | apply hEq3 | apply hRow | apply hUs | apply hRUs | apply hIs | apply hFi | apply hRFi | apply hRowA | apply hRowB) <;> (first | assumption | rfl | omega | (refine ⟨?_, ?_⟩ <;> omega) | ((repeat (first | exact Ext.refl _ | assumption | apply Ext.push | (refine Ext.set ?_ (by (first | omega | (simp only [next_push, next_set, next_empty]; done) | (simp only [next_push, next_set, next_empty]; omega))) _))); done))); (intro x; rfl))
       | (apply RKp.callE; ((first | apply hEq3 | apply hRow | apply hUs | apply hRUs | apply hIs | apply hFi | apply hRFi | apply hRowA | apply hRowB) <;> (first | assumption | rfl | omega | (refine ⟨?_, ?_⟩ <;> omega) | ((repeat (first | exact Ext.refl _ | assumption | apply Ext.push | (refine Ext.set ?_ (by (first | omega | (simp only [next_push, next_set, next_empty]; done) | (simp only [next_push, next_set, next_empty]; omega))) _))); done))); (intro x; rfl))
       | (apply RK.guard; rfl; rfl; (simp only [Nat.reduceDiv, Nat.reduceMod, get_nthS, nthS_zero, nthS_succ]; rfl))
       | apply RKg.tt
       | apply RKg.ff
       | (apply RKg.tf; rfl)
       | (apply RKg.ft; rfl)
       | (apply RKg.u; rfl)
       | ((fail_if_success (first | apply RKg.tt | apply RKg.ff | apply RKg.tf | apply RKg.ft | apply RKg.u)); refine RKg.split (fun h => ?_) (fun h => ?_) <;> (try rw [h]) <;> (try simp only [decide_eq_true_eq, decide_eq_false_iff_not, Bool.and_eq_true, Bool.or_eq_true, Bool.and_eq_false_iff, Bool.or_eq_false_iff, Bool.not_eq_true', Bool.not_eq_false', Bool.not_true, Bool.not_false, Classical.not_not, Int.not_lt, Int.not_le, reduceCtorEq, not_true_eq_false, not_false_eq_true, decide_true, decide_false, Int.reduceEq, Int.reduceLT, Int.reduceLE] at h) <;> (try (exfalso; omega)))
       | apply RK.nil
       | apply V.sq
       | apply V.bl
       | apply V.sc
       | apply V.skip
       | apply V.label
       | apply V.ret
       | apply V.exit
       | apply SeqQ.normal
       | apply SeqQ.ret
       | apply SeqQ.exit
       | apply BlockQ.normal
       | apply BlockQ.ret
       | apply BlockQ.here
       | (apply BlockQ.there; decide)
       | apply LoopS.ret
       | apply LoopS.exit
       | apply LoopF.ret
       | apply LoopF.exit
       | apply V.regK
        | (refine V.regdK (by kernel_rfl) ?_)
       | (refine DrawK.mk ?_ ?_; (focus (simp only [List.reverse_cons, List.reverse_nil, List.nil_append, List.cons_append]; decide +kernel)))
       | (apply DrawK.k3; (simp only [List.reverse_cons, List.reverse_nil, List.nil_append, List.cons_append]; rfl); (focus ((repeat (first | exact Kinds3.nil | apply Kinds3.z | (apply Kinds3.ro; (focus ((first | exact bits0 | (refine bits1 ?_; (first | omega | (simp only [next_push, next_set, next_empty]; done) | (simp only [next_push, next_set, next_empty]; omega))) | (refine rd_lt hA' _ ?_; (first | omega | (simp only [next_push, next_set, next_empty]; done) | (simp only [next_push, next_set, next_empty]; omega))) | (refine rd_lt hB' _ ?_; (first | omega | (simp only [next_push, next_set, next_empty]; done) | (simp only [next_push, next_set, next_empty]; omega))) | (refine rd_lt hC' _ ?_; (first | omega | (simp only [next_push, next_set, next_empty]; done) | (simp only [next_push, next_set, next_empty]; omega)))); done))) | (apply Kinds3.rd; (focus ((first | exact bits0 | (refine bits1 ?_; (first | omega | (simp only [next_push, next_set, next_empty]; done) | (simp only [next_push, next_set, next_empty]; omega))) | (refine rd_lt hA' _ ?_; (first | omega | (simp only [next_push, next_set, next_empty]; done) | (simp only [next_push, next_set, next_empty]; omega))) | (refine rd_lt hB' _ ?_; (first | omega | (simp only [next_push, next_set, next_empty]; done) | (simp only [next_push, next_set, next_empty]; omega))) | (refine rd_lt hC' _ ?_; (first | omega | (simp only [next_push, next_set, next_empty]; done) | (simp only [next_push, next_set, next_empty]; omega)))); done))) | (apply Kinds3.nw 0; (focus (first | omega | (simp only [next_push, next_set, next_empty]; done) | (simp only [next_push, next_set, next_empty]; omega))); (focus ((first | exact bits0 | (refine bits1 ?_; (first | omega | (simp only [next_push, next_set, next_empty]; done) | (simp only [next_push, next_set, next_empty]; omega))) | (refine rd_lt hA' _ ?_; (first | omega | (simp only [next_push, next_set, next_empty]; done) | (simp only [next_push, next_set, next_empty]; omega))) | (refine rd_lt hB' _ ?_; (first | omega | (simp only [next_push, next_set, next_empty]; done) | (simp only [next_push, next_set, next_empty]; omega))) | (refine rd_lt hC' _ ?_; (first | omega | (simp only [next_push, next_set, next_empty]; done) | (simp only [next_push, next_set, next_empty]; omega)))); done))) | (apply Kinds3.nw 1; (focus (first | omega | (simp only [next_push, next_set, next_empty]; done) | (simp only [next_push, next_set, next_empty]; omega))); (focus ((first | exact bits0 | (refine bits1 ?_; (first | omega | (simp only [next_push, next_set, next_empty]; done) | (simp only [next_push, next_set, next_empty]; omega))) | (refine rd_lt hA' _ ?_; (first | omega | (simp only [next_push, next_set, next_empty]; done) | (simp only [next_push, next_set, next_empty]; omega))) | (refine rd_lt hB' _ ?_; (first | omega | (simp only [next_push, next_set, next_empty]; done) | (simp only [next_push, next_set, next_empty]; omega))) | (refine rd_lt hC' _ ?_; (first | omega | (simp only [next_push, next_set, next_empty]; done) | (simp only [next_push, next_set, next_empty]; omega)))); done))) | (apply Kinds3.nw 2; (focus (first | omega | (simp only [next_push, next_set, next_empty]; done) | (simp only [next_push, next_set, next_empty]; omega))); (focus ((first | exact bits0 | (refine bits1 ?_; (first | omega | (simp only [next_push, next_set, next_empty]; done) | (simp only [next_push, next_set, next_empty]; omega))) | (refine rd_lt hA' _ ?_; (first | omega | (simp only [next_push, next_set, next_empty]; done) | (simp only [next_push, next_set, next_empty]; omega))) | (refine rd_lt hB' _ ?_; (first | omega | (simp only [next_push, next_set, next_empty]; done) | (simp only [next_push, next_set, next_empty]; omega))) | (refine rd_lt hC' _ ?_; (first | omega | (simp only [next_push, next_set, next_empty]; done) | (simp only [next_push, next_set, next_empty]; omega)))); done))) | (apply Kinds3.ra; (focus (first | exact RoT.zero | exact RoT.rd | exact RoT.all | exact RoT.rdTr _ | assumption))) | apply Kinds3.any)); done)); decide +kernel)
       | (refine V.condT rfl ?_)
       | (refine V.condF rfl ?_)
       | (refine V.cond rfl (fun h => ?_) (fun h => ?_) <;> (try simp only [decide_eq_true_eq, decide_eq_false_iff_not, Bool.and_eq_true, Bool.or_eq_true, Bool.and_eq_false_iff, Bool.or_eq_false_iff, Bool.not_eq_true', Bool.not_eq_false', Bool.not_true, Bool.not_false, Classical.not_not, Int.not_lt, Int.not_le, reduceCtorEq, not_true_eq_false, not_false_eq_true, decide_true, decide_false, Int.reduceEq, Int.reduceLT, Int.reduceLE] at h) <;> (try (exfalso; omega)))
        | (refine FnQ.ret (res1 Tryz.results5) (by simp only [Nat.reduceDiv, Nat.reduceMod, get_nthS, nthS_zero, nthS_succ]; rfl) ?_; (try dsimp only)))
      all_goals first
        | rfl
        | (exfalso; rename_i h; revert h; cases wr <;> simp_all; done)
        | (exfalso; rename_i h2 h; revert h; cases wr <;> simp [hG, h2]; done)
        | trace_state
    · have d1 : decide (rowG r) = false := decide_eq_false hG
      repeat' (first
       | (apply RK.free; rfl)
       | (apply RKy.pl; ((try simp only [go_sem, Nat.reduceDiv, Nat.reduceMod, Nat.reduceAdd, Nat.reduceSub, Nat.reduceEqDiff, Nat.reduceLeDiff, Nat.reduceLT, Nat.reduceMul, reduceIte, Nat.reducePow, Int.reduceEq]); rfl))
       | (apply RKp.op; ((try simp (disch := (first | omega | ((repeat (first | exact Ext.refl _ | assumption | apply Ext.push | (refine Ext.set ?_ (by (first | omega | (simp only [next_push, next_set, next_empty]; done) | (simp only [next_push, next_set, next_empty]; omega))) _))); done) | fail)) only [d1, if_neg hG, go_sem, Nat.reduceDiv, Nat.reduceMod, Nat.reduceAdd, Nat.reduceSub, Nat.reduceEqDiff, Nat.reduceLeDiff, Nat.reduceLT, Nat.reduceMul, reduceIte, Nat.reducePow, Int.reduceEq]); (first | rfl | (apply ite_ok; (first | assumption | rfl | omega | (refine ⟨?_, ?_⟩ <;> omega) | ((repeat (first | exact Ext.refl _ | assumption | apply Ext.push | (refine Ext.set ?_ (by (first | omega | (simp only [next_push, next_set, next_empty]; done) | (simp only [next_push, next_set, next_empty]; omega))) _))); done)); rfl))); rfl)
       | (apply RKp.call; ((first | apply hEq3 | apply hRow | apply hUs | apply hIs) <;> (first | assumption | rfl | omega | (refine ⟨?_, ?_⟩ <;> omega) | ((repeat (first | exact Ext.refl _ | assumption | apply Ext.push | (refine Ext.set ?_ (by (first | omega | (simp only [next_push, next_set, next_empty]; done) | (simp only [next_push, next_set, next_empty]; omega))) _))); done))); rfl)
       | (apply RKp.callR; ((first | apply hEq3 | apply hRow | apply hUs | apply hIs) <;> (first | assumption | rfl | omega | (refine ⟨?_, ?_⟩ <;> omega) | ((repeat (first | exact Ext.refl _ | assumption | apply Ext.push | (refine Ext.set ?_ (by (first | omega | (simp only [next_push, next_set, next_empty]; done) | (simp only [next_push, next_set, next_empty]; omega))) _))); done))); rfl; intro tr htr)
       | (apply RKp.callO; ((first | apply hEq3 | apply hRow | apply hUs | apply hIs) <;> (first | assumption | rfl | omega | (refine ⟨?_, ?_⟩ <;> omega) | ((repeat (first | exact Ext.refl _ | assumption | apply Ext.push | (refine Ext.set ?_ (by (first | omega | (simp only [next_push, next_set, next_empty]; done) | (simp only [next_push, next_set, next_empty]; omega))) _))); done))); rfl; intro tr)
       | (apply RKp.callRE; ((first | apply hEq3 | apply hRow | apply hUs | apply hIs) <;> (first | assumption | rfl | omega | (refine ⟨?_, ?_⟩ <;> omega) | ((repeat (first | exact Ext.refl _ | assumption | apply Ext.push | (refine Ext.set ?_ (by (first | omega | (simp only [next_push, next_set, next_empty]; done) | (simp only [next_push, next_set, next_empty]; omega))) _))); done))); (intro x; rfl))
       | (apply RKp.callE; ((first | apply hEq3 | apply hRow | apply hUs | apply hIs) <;> (first | assumption | rfl | omega | (refine ⟨?_, ?_⟩ <;> omega) | ((repeat (first | exact Ext.refl _ | assumption | apply Ext.push | (refine Ext.set ?_ (by (first | omega | (simp only [next_push, next_set, next_empty]; done) | (simp only [next_push, next_set, next_empty]; omega))) _))); done))); (intro x; rfl))
       | (apply RK.guard; rfl; rfl; (simp only [Nat.reduceDiv, Nat.reduceMod, get_nthS, nthS_zero, nthS_succ]; rfl))
       | apply RKg.tt
       | apply RKg.ff
       | (apply RKg.tf; rfl)
       | (apply RKg.ft; rfl)
       | (apply RKg.u; rfl)
       | ((fail_if_success (first | apply RKg.tt | apply RKg.ff | apply RKg.tf | apply RKg.ft | apply RKg.u)); refine RKg.split (fun h => ?_) (fun h => ?_) <;> (try rw [h]) <;> (try simp only [decide_eq_true_eq, decide_eq_false_iff_not, Bool.and_eq_true, Bool.or_eq_true, Bool.and_eq_false_iff, Bool.or_eq_false_iff, Bool.not_eq_true', Bool.not_eq_false', Bool.not_true, Bool.not_false, Classical.not_not, Int.not_lt, Int.not_le, reduceCtorEq, not_true_eq_false, not_false_eq_true, decide_true, decide_false, Int.reduceEq, Int.reduceLT, Int.reduceLE] at h) <;> (try (exfalso; omega)))
       | apply RK.nil
       | apply V.sq
       | apply V.bl
       | apply V.sc
       | apply V.skip
       | apply V.label
       | apply V.ret
       | apply V.exit
       | apply SeqQ.normal
       | apply SeqQ.ret
       | apply SeqQ.exit
       | apply BlockQ.normal
       | apply BlockQ.ret
       | apply BlockQ.here
       | (apply BlockQ.there; decide)
       | apply LoopS.ret
       | apply LoopS.exit
       | apply LoopF.ret
       | apply LoopF.exit
       | apply V.regK
        | (refine V.regdK (by kernel_rfl) ?_)
       | (refine DrawK.mk ?_ ?_; (focus (simp only [List.reverse_cons, List.reverse_nil, List.nil_append, List.cons_append]; decide +kernel)))
       | (apply DrawK.k3; (simp only [List.reverse_cons, List.reverse_nil, List.nil_append, List.cons_append]; rfl); (focus ((repeat (first | exact Kinds3.nil | apply Kinds3.z | (apply Kinds3.ro; (focus ((first | exact bits0 | (refine bits1 ?_; (first | omega | (simp only [next_push, next_set, next_empty]; done) | (simp only [next_push, next_set, next_empty]; omega))) | (refine rd_lt hA' _ ?_; (first | omega | (simp only [next_push, next_set, next_empty]; done) | (simp only [next_push, next_set, next_empty]; omega))) | (refine rd_lt hB' _ ?_; (first | omega | (simp only [next_push, next_set, next_empty]; done) | (simp only [next_push, next_set, next_empty]; omega))) | (refine rd_lt hC' _ ?_; (first | omega | (simp only [next_push, next_set, next_empty]; done) | (simp only [next_push, next_set, next_empty]; omega)))); done))) | (apply Kinds3.rd; (focus ((first | exact bits0 | (refine bits1 ?_; (first | omega | (simp only [next_push, next_set, next_empty]; done) | (simp only [next_push, next_set, next_empty]; omega))) | (refine rd_lt hA' _ ?_; (first | omega | (simp only [next_push, next_set, next_empty]; done) | (simp only [next_push, next_set, next_empty]; omega))) | (refine rd_lt hB' _ ?_; (first | omega | (simp only [next_push, next_set, next_empty]; done) | (simp only [next_push, next_set, next_empty]; omega))) | (refine rd_lt hC' _ ?_; (first | omega | (simp only [next_push, next_set, next_empty]; done) | (simp only [next_push, next_set, next_empty]; omega)))); done))) | (apply Kinds3.nw 0; (focus (first | omega | (simp only [next_push, next_set, next_empty]; done) | (simp only [next_push, next_set, next_empty]; omega))); (focus ((first | exact bits0 | (refine bits1 ?_; (first | omega | (simp only [next_push, next_set, next_empty]; done) | (simp only [next_push, next_set, next_empty]; omega))) | (refine rd_lt hA' _ ?_; (first | omega | (simp only [next_push, next_set, next_empty]; done) | (simp only [next_push, next_set, next_empty]; omega))) | (refine rd_lt hB' _ ?_; (first | omega | (simp only [next_push, next_set, next_empty]; done) | (simp only [next_push, next_set, next_empty]; omega))) | (refine rd_lt hC' _ ?_; (first | omega | (simp only [next_push, next_set, next_empty]; done) | (simp only [next_push, next_set, next_empty]; omega)))); done))) | (apply Kinds3.nw 1; (focus (first | omega | (simp only [next_push, next_set, next_empty]; done) | (simp only [next_push, next_set, next_empty]; omega))); (focus ((first | exact bits0 | (refine bits1 ?_; (first | omega | (simp only [next_push, next_set, next_empty]; done) | (simp only [next_push, next_set, next_empty]; omega))) | (refine rd_lt hA' _ ?_; (first | omega | (simp only [next_push, next_set, next_empty]; done) | (simp only [next_push, next_set, next_empty]; omega))) | (refine rd_lt hB' _ ?_; (first | omega | (simp only [next_push, next_set, next_empty]; done) | (simp only [next_push, next_set, next_empty]; omega))) | (refine rd_lt hC' _ ?_; (first | omega | (simp only [next_push, next_set, next_empty]; done) | (simp only [next_push, next_set, next_empty]; omega)))); done))) | (apply Kinds3.nw 2; (focus (first | omega | (simp only [next_push, next_set, next_empty]; done) | (simp only [next_push, next_set, next_empty]; omega))); (focus ((first | exact bits0 | (refine bits1 ?_; (first | omega | (simp only [next_push, next_set, next_empty]; done) | (simp only [next_push, next_set, next_empty]; omega))) | (refine rd_lt hA' _ ?_; (first | omega | (simp only [next_push, next_set, next_empty]; done) | (simp only [next_push, next_set, next_empty]; omega))) | (refine rd_lt hB' _ ?_; (first | omega | (simp only [next_push, next_set, next_empty]; done) | (simp only [next_push, next_set, next_empty]; omega))) | (refine rd_lt hC' _ ?_; (first | omega | (simp only [next_push, next_set, next_empty]; done) | (simp only [next_push, next_set, next_empty]; omega)))); done))) | (apply Kinds3.ra; (focus (first | exact RoT.zero | exact RoT.rd | exact RoT.all | exact RoT.rdTr _ | assumption))) | apply Kinds3.any)); done)); decide +kernel)
       | (refine V.condT rfl ?_)
       | (refine V.condF rfl ?_)
       | (refine V.cond rfl (fun h => ?_) (fun h => ?_) <;> (try simp only [decide_eq_true_eq, decide_eq_false_iff_not, Bool.and_eq_true, Bool.or_eq_true, Bool.and_eq_false_iff, Bool.or_eq_false_iff, Bool.not_eq_true', Bool.not_eq_false', Bool.not_true, Bool.not_false, Classical.not_not, Int.not_lt, Int.not_le, reduceCtorEq, not_true_eq_false, not_false_eq_true, decide_true, decide_false, Int.reduceEq, Int.reduceLT, Int.reduceLE] at h) <;> (try (exfalso; omega)))
        | (refine FnQ.ret (res1 Tryz.results5) (by simp only [Nat.reduceDiv, Nat.reduceMod, get_nthS, nthS_zero, nthS_succ]; rfl) ?_; (try dsimp only)))
      all_goals first
        | (simp [hG]; done)
        | trace_state
theorem wd_cellsS {d : Nat} {u : List AV} (h : Wd Tryz.prog (d + 3) 45 u) : ∃ (A : AV) (l : List Ce), u = [A] ∧ Sl 3 A (cesA l) ∧ l.length < 2 ^ 63 ∧ R32 l := by
  unfold Wd at h
  rw [Tryz.underlying45] at h
  obtain ⟨x, es, rfl, hs, hlen, he⟩ := h
  obtain ⟨l, rfl, hr⟩ := wd_cells he
  have hc3 : Tryz.prog.cellsOf 61 = 3 := by kernel_rfl
  rw [hc3] at hs
  refine ⟨x, l, rfl, hs, ?_, hr⟩
  rw [ces_len] at hlen
  unfold maxLen at hlen; omega
theorem RowAll_run (u : List AV) (h : Wd Tryz.prog 6 47 u) (col : Int) (hc : (Lit.int .i64 col).wf = true) (v : List AV) (hv : Wd Tryz.prog 6 45 v) (a : Int) (ha : (Lit.int .i64 a).wf = true) (b : Int) (hb : (Lit.int .i64 b).wf = true) (w : Int) (hw : (Lit.int .i64 w).wf = true) : WC EZ [] 0 5 [.agg u, .v (.int .i64 col), v.getD 0 .dead, .v (.int .i64 a), .v (.int .i64 b), .v (.int .i64 w)] .empty fun x _ => x = .v (.bool true) := by
  obtain ⟨A, l, wr, rfl, hA, hl, hr⟩ := wd_row h
  obtain ⟨B, m, rfl, hB, hm, hrm⟩ := wd_cellsS hv
  exact RowAll_law hA hl hr hB hm hrm col a b w (i64_wf hc) (i64_wf ha) (i64_wf hb) (i64_wf hw)
end
end Go.Am
