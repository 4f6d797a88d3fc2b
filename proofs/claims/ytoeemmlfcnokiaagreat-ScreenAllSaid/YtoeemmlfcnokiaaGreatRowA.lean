/- RowAll: cells are set, erased. -/
import Derived.Test.YtoeemmlfcnokiaaGreatRowS
set_option linter.all false
set_option linter.deprecated false
namespace Go.Am
open Go.Proofs
set_option maxRecDepth 8000
set_option maxHeartbeats 4000000
def setL (l : List Ce) (col : Int) (m : List Ce) : List Ce := if setOk l col m then putL l col.toNat m else l
def erL (l : List Ce) (a b : Int) : List Ce := if eraOk l a b then eraL l a.toNat b.toNat else l
def erW (l : List Ce) (wr : Bool) (a b : Int) : Bool := if eraOk l a b then eraW l wr a b else wr
theorem SetP.norm {l m : List Ce} {wr : Bool} {A x : AV} {col : Int} (h : SetP l wr A col m x) (hA : Sl 3 A (cesA l)) : ∃ A', x = .tup [rowA A' wr, .v (.bool (decide (setOk l col m)))] ∧ Sl 3 A' (cesA (setL l col m)) := by
  rcases h with ⟨hok, A', rfl, hA'⟩ | ⟨hno, rfl⟩
  · exact ⟨A', by rw [decide_eq_true hok], by unfold setL; rw [if_pos hok]; exact hA'⟩
  · exact ⟨A, by rw [decide_eq_false hno], by unfold setL; rw [if_neg hno]; exact hA⟩
theorem EraP.norm {H : AHeap} {l : List Ce} {wr : Bool} {A x : AV} {a b : Int} (h : EraP H l wr A a b x) (hA : Sl 3 A (cesA l)) : ∃ A', x = .tup [rowA A' (erW l wr a b), .v (.bool (decide (eraOk l a b)))] ∧ SlH H 3 A' (cesA (erL l a b)) := by
  rcases h with ⟨hok, A', rfl, hA'⟩ | ⟨hno, rfl⟩
  · exact ⟨A', by unfold erW; rw [decide_eq_true hok, if_pos hok], by unfold erL; rw [if_pos hok]; exact hA'⟩
  · exact ⟨A, by unfold erW; rw [decide_eq_false hno, if_neg hno], by unfold erL; rw [if_neg hno]; exact .inl hA⟩
theorem R32_put {l m : List Ce} (h : R32 l) (hm : R32 m) (col : Nat) : R32 (putL l col m) := fun i => by
  rcases Nat.lt_or_ge i l.length with hi | hi
  · rw [putL_at _ _ _ _ hi]
    split
    · exact hm _
    · split
      · simp
      · split
        · simp
        · exact h i
  · simp [List.getD_eq_getElem?_getD, List.getElem?_eq_none (by rw [putL_len]; exact hi : (putL l col m).length ≤ i)]
theorem R32_blanks (n : Nat) : R32 (blanks n) := fun i => by
  rcases Nat.lt_or_ge i n with hi | hi
  · rw [blanks_at _ _ hi]; simp
  · simp [List.getD_eq_getElem?_getD, List.getElem?_eq_none (by rw [blanks_len]; exact hi : (blanks n).length ≤ i)]
theorem setL_ok {l m : List Ce} {col : Int} (hl : rowG l) : rowG (setL l col m) := by
  unfold setL
  split
  · rename_i h
    obtain ⟨_, h2, h3, h4⟩ := h
    have := (signI_G h2).len
    exact put_rowG hl _ _ (by omega) (by omega) (sign_cells (signI_G h2))
  · exact hl
theorem erL_ok {l : List Ce} {a b : Int} (hl : rowG l) : rowG (erL l a b) := by
  unfold erL
  split
  · rename_i h
    obtain ⟨_, h2, h3, h4⟩ := h
    exact eraG hl (by omega) (by omega)
  · exact hl
theorem setL_R {l m : List Ce} {col : Int} (h : R32 l) (hm : R32 m) : R32 (setL l col m) := by
  unfold setL; split
  · exact R32_put h hm _
  · exact h
theorem erL_R {l : List Ce} {a b : Int} (h : R32 l) : R32 (erL l a b) := by
  unfold erL eraL; split
  · split
    · exact h
    · exact R32_put h (R32_blanks _) _
  · exact h
theorem setL_len (l m : List Ce) (col : Int) : (setL l col m).length = l.length := by unfold setL; split <;> simp [putL_len]
theorem erL_len (l : List Ce) (a b : Int) : (erL l a b).length = l.length := by unfold erL; split <;> simp [eraL_len]
/-- The first cell, as both tell it. -/
theorem first_alike {l : List Ce} (hl : rowG l) (col : Int) : (if rowG l ∧ l ≠ [] then (if (l.getD (min (max col 0) (l.length - 1)).toNat zeroC).w = 0 then min (max col 0) (l.length - 1) - 1 else min (max col 0) (l.length - 1)) else (0 : Int)) = (if 0 < max 0 (min col (l.length - 1)) ∧ max 0 (min col (l.length - 1)) < l.length ∧ (l.getD (max 0 (min col (l.length - 1))).toNat zeroC).w = 0 then max 0 (min col (l.length - 1)) - 1 else max 0 (min col ((l.length : Int) - 1))) := by
  by_cases h0 : l = []
  · subst h0
    simp; omega
  · have hp : 0 < l.length := List.length_pos_iff.2 h0
    have e : max 0 (min col ((l.length : Int) - 1)) = min (max col 0) (l.length - 1) := by omega
    rw [if_pos ⟨hl, h0⟩, e]
    by_cases hw : (l.getD (min (max col 0) ((l.length : Int) - 1)).toNat zeroC).w = 0
    · have := ((hl.2 (min (max col 0) ((l.length : Int) - 1)).toNat (by omega)).2.1 hw).1
      rw [if_pos hw, if_pos ⟨by omega, by omega, hw⟩]
    · rw [if_neg hw, if_neg (fun z => hw z.2.2)]
section
variable {A B : AV} {l m : List Ce} {wr : Bool}
theorem RowAll_law (hA : Sl 3 A (cesA l)) (hl : l.length < 2 ^ 63) (h32 : R32 l) (hB : Sl 3 B (cesA m)) (hm : m.length < 2 ^ 63) (h32m : R32 m) (col a b w : Int) (hc : -9223372036854775808 ≤ col ∧ col ≤ 9223372036854775807) (ha : -9223372036854775808 ≤ a ∧ a ≤ 9223372036854775807) (hb : -9223372036854775808 ≤ b ∧ b ≤ 9223372036854775807) (hw : -9223372036854775808 ≤ w ∧ w ≤ 9223372036854775807) :
    WC EZ [] 0 5 [rowA A wr, .v (.int .i64 col), B, .v (.int .i64 a), .v (.int .i64 b), .v (.int .i64 w)] .empty fun x _ => x = .v (.bool true) := by
  have hA0 : ∀ H, SlH H 3 A (cesA l) := fun H => .inl hA
  have b1 := fun H => len_cell (H := H) (A := B) (l := m) 0 (.inl hB)
  have b2 := fun H => sl_hi (H := H) (A := B) (l := m) 0 (.inl hB)
  have e1 : (min (m.length : Int) 4).toNat = min m.length 4 := by omega
  have hz : rdTr B = ⟨0, 0, 0⟩ := by rcases hB with rfl | ⟨_, rfl | rfl⟩ <;> rfl
  have hl4 := fun H => law4Row_run (ys := []) (lo := 0) (H := H) (wr := wr) (hA0 H) hl
  refine zvin Tryz.func5 Tryz.ntmps5 ?_
  repeat' (first
   | refine zka ?_
   | refine zkb ?_
   | (apply RKp.op; ((try simp (disch := (first | omega | exact zX | fail)) only [b1, b2, hz, e1, go_sem, Nat.reduceDiv, Nat.reduceMod, Nat.reduceAdd, Nat.reduceSub, Nat.reduceEqDiff, Nat.reduceLeDiff, Nat.reduceLT, Nat.reduceMul, reduceIte, Nat.reducePow, Int.reduceEq]); exact zL); rfl)
   | (apply RKp.call; (apply begun_R <;> (first | assumption | rfl | omega | (refine ⟨?_, ?_⟩ <;> omega) | exact zX)); rfl)
   | (apply RKp.callRE; (apply hl4 <;> (first | assumption | rfl | omega | (refine ⟨?_, ?_⟩ <;> omega) | exact zX)); (intro x; rfl))
   | refine zkc ?_
   | apply RKg.tt
   | apply RKg.ff
   | refine zkd ?_
   | refine zke ?_
   | refine zkf ?_
   | (refine RKg.split (fun h => ?_) (fun h => ?_) <;> (try rw [h]) <;> (replace h := zB h) <;> (try (exfalso; first | exact h | omega)))
   | apply RK.nil
   | apply V.sq
   | apply V.bl
   | apply V.sc
   | apply V.skip
   | apply V.label
   | apply V.ret
   | apply V.exit
   | apply SeqQ.normal
   | apply SeqQ.ret
   | apply SeqQ.exit
   | apply BlockQ.normal
   | apply BlockQ.ret
   | apply BlockQ.here
   | refine zbt ?_
   | apply LoopS.ret
   | apply LoopS.exit
   | apply LoopF.ret
   | apply LoopF.exit
   | apply V.regK
    | refine zva ?_
   | refine zvb ?_
   | refine zvc ?_
   | refine zvd ?_
   | refine zve ?_
   | (refine zvf (fun h => ?_) (fun h => ?_) <;> (replace h := zB h) <;> (try (exfalso; first | exact h | omega)))
    | (refine zfc Tryz.results5 ?_; (try dsimp only)))
  rintro x tr htr ⟨A1, rfl, hA1⟩
  have hq : (l.take 310).length < 2 ^ 40 := by rw [List.length_take]; omega
  have h32' := R32_take h32 310
  generalize l.take 310 = r at *
  have hB1 : Sl 3 (cutA B 0 (min m.length 4)) (cesA (m.take (min m.length 4))) := by
    have := cutA_Sl (lo := 0) (hi := min m.length 4) hB
    rw [ces_take] at this; exact this
  have hqm : (m.take (min m.length 4)).length < 2 ^ 40 := by rw [List.length_take]; omega
  have h32n := R32_take h32m (min m.length 4)
  generalize m.take (min m.length 4) = n at *
  generalize hBe : cutA B 0 (min m.length 4) = B1 at *
  have hSet := fun H => Set_run (ys := []) (lo := 0) (H := H) (wr := wr) (.inl hA1) (.inl hB1) hq hqm col hc
  have hRSet := fun H => refSet_run (ys := []) (lo := 0) (H := H) (wr := wr) (.inl hA1) (.inl hB1) hq hqm h32' h32n col hc
  have hEra := fun H => Erase_run (ys := []) (lo := 0) (H := H) (wr := wr) (.inl hA1) hq a b ha hb
  have hREra := fun H => refErase_run (ys := []) (lo := 0) (H := H) (wr := wr) (.inl hA1) hq h32' a b ha hb
  have hRow := fun H => Row_R (ys := []) (lo := 0) (H := H) (wr := wr) (.inl hA1) hq h32'
  repeat' (first
   | refine zka ?_
   | refine zkb ?_
   | (apply RKp.op; ((try simp (disch := (first | omega | exact zX | fail)) only [b1, b2, hz, e1, hBe, go_sem, Nat.reduceDiv, Nat.reduceMod, Nat.reduceAdd, Nat.reduceSub, Nat.reduceEqDiff, Nat.reduceLeDiff, Nat.reduceLT, Nat.reduceMul, reduceIte, Nat.reducePow, Int.reduceEq]); exact zL); rfl)
   | (apply RKp.callRE; (apply hSet <;> (first | assumption | rfl | omega | (refine ⟨?_, ?_⟩ <;> omega) | exact zX)); (intro x; rfl))
   | refine zkc ?_
   | apply RKg.tt
   | apply RKg.ff
   | refine zkd ?_
   | refine zke ?_
   | refine zkf ?_
   | (refine RKg.split (fun h => ?_) (fun h => ?_) <;> (try rw [h]) <;> (replace h := zB h) <;> (try (exfalso; first | exact h | omega)))
   | apply RK.nil
   | apply V.sq
   | apply V.bl
   | apply V.sc
   | apply V.skip
   | apply V.label
   | apply V.ret
   | apply V.exit
   | apply SeqQ.normal
   | apply SeqQ.ret
   | apply SeqQ.exit
   | apply BlockQ.normal
   | apply BlockQ.ret
   | apply BlockQ.here
   | refine zbt ?_
   | apply LoopS.ret
   | apply LoopS.exit
   | apply LoopF.ret
   | apply LoopF.exit
   | apply V.regK
    | refine zva ?_
   | refine zvb ?_
   | refine zvc ?_
   | refine zvd ?_
   | refine zve ?_
   | (refine zvf (fun h => ?_) (fun h => ?_) <;> (replace h := zB h) <;> (try (exfalso; first | exact h | omega)))
    | (refine zfc Tryz.results5 ?_; (try dsimp only)))
  rintro x tr htr hP
  obtain ⟨A2, rfl, hA2⟩ := hP.norm hA1
  repeat' (first
   | refine zka ?_
   | refine zkb ?_
   | (apply RKp.op; ((try simp (disch := (first | omega | exact zX | fail)) only [go_sem, Nat.reduceDiv, Nat.reduceMod, Nat.reduceAdd, Nat.reduceSub, Nat.reduceEqDiff, Nat.reduceLeDiff, Nat.reduceLT, Nat.reduceMul, reduceIte, Nat.reducePow, Int.reduceEq]); exact zL); rfl)
   | (apply RKp.callRE; (apply hRSet <;> (first | assumption | rfl | omega | (refine ⟨?_, ?_⟩ <;> omega) | exact zX)); (intro x; rfl))
   | refine zkc ?_
   | apply RKg.tt
   | apply RKg.ff
   | refine zkd ?_
   | refine zke ?_
   | refine zkf ?_
   | (refine RKg.split (fun h => ?_) (fun h => ?_) <;> (try rw [h]) <;> (replace h := zB h) <;> (try (exfalso; first | exact h | omega)))
   | apply RK.nil
   | apply V.sq
   | apply V.bl
   | apply V.sc
   | apply V.skip
   | apply V.label
   | apply V.ret
   | apply V.exit
   | apply SeqQ.normal
   | apply SeqQ.ret
   | apply SeqQ.exit
   | apply BlockQ.normal
   | apply BlockQ.ret
   | apply BlockQ.here
   | refine zbt ?_
   | apply LoopS.ret
   | apply LoopS.exit
   | apply LoopF.ret
   | apply LoopF.exit
   | apply V.regK
    | refine zva ?_
   | refine zvb ?_
   | refine zvc ?_
   | refine zvd ?_
   | refine zve ?_
   | (refine zvf (fun h => ?_) (fun h => ?_) <;> (replace h := zB h) <;> (try (exfalso; first | exact h | omega)))
    | (refine zfc Tryz.results5 ?_; (try dsimp only)))
  rintro x tr htr hP2
  obtain ⟨A3, rfl, hA3⟩ := hP2.norm hA1
  repeat' (first
   | refine zka ?_
   | refine zkb ?_
   | (apply RKp.op; ((try simp (disch := (first | omega | exact zX | fail)) only [go_sem, Nat.reduceDiv, Nat.reduceMod, Nat.reduceAdd, Nat.reduceSub, Nat.reduceEqDiff, Nat.reduceLeDiff, Nat.reduceLT, Nat.reduceMul, reduceIte, Nat.reducePow, Int.reduceEq]); exact zL); rfl)
   | (apply RKp.callRE; (apply hEra <;> (first | assumption | rfl | omega | (refine ⟨?_, ?_⟩ <;> omega) | exact zX)); (intro x; rfl))
   | refine zkc ?_
   | apply RKg.tt
   | apply RKg.ff
   | refine zkd ?_
   | refine zke ?_
   | refine zkf ?_
   | (refine RKg.split (fun h => ?_) (fun h => ?_) <;> (try rw [h]) <;> (replace h := zB h) <;> (try (exfalso; first | exact h | omega)))
   | apply RK.nil
   | apply V.sq
   | apply V.bl
   | apply V.sc
   | apply V.skip
   | apply V.label
   | apply V.ret
   | apply V.exit
   | apply SeqQ.normal
   | apply SeqQ.ret
   | apply SeqQ.exit
   | apply BlockQ.normal
   | apply BlockQ.ret
   | apply BlockQ.here
   | refine zbt ?_
   | apply LoopS.ret
   | apply LoopS.exit
   | apply LoopF.ret
   | apply LoopF.exit
   | apply V.regK
    | refine zva ?_
   | refine zvb ?_
   | refine zvc ?_
   | refine zvd ?_
   | refine zve ?_
   | (refine zvf (fun h => ?_) (fun h => ?_) <;> (replace h := zB h) <;> (try (exfalso; first | exact h | omega)))
    | (refine zfc Tryz.results5 ?_; (try dsimp only)))
  rintro x tr htr hP3
  obtain ⟨A4, rfl, hA4⟩ := hP3.norm hA1
  repeat' (first
   | refine zka ?_
   | refine zkb ?_
   | (apply RKp.op; ((try simp (disch := (first | omega | exact zX | fail)) only [go_sem, Nat.reduceDiv, Nat.reduceMod, Nat.reduceAdd, Nat.reduceSub, Nat.reduceEqDiff, Nat.reduceLeDiff, Nat.reduceLT, Nat.reduceMul, reduceIte, Nat.reducePow, Int.reduceEq]); exact zL); rfl)
   | (apply RKp.callRE; (apply hREra <;> (first | assumption | rfl | omega | (refine ⟨?_, ?_⟩ <;> omega) | exact zX)); (intro x; rfl))
   | refine zkc ?_
   | apply RKg.tt
   | apply RKg.ff
   | refine zkd ?_
   | refine zke ?_
   | refine zkf ?_
   | (refine RKg.split (fun h => ?_) (fun h => ?_) <;> (try rw [h]) <;> (replace h := zB h) <;> (try (exfalso; first | exact h | omega)))
   | apply RK.nil
   | apply V.sq
   | apply V.bl
   | apply V.sc
   | apply V.skip
   | apply V.label
   | apply V.ret
   | apply V.exit
   | apply SeqQ.normal
   | apply SeqQ.ret
   | apply SeqQ.exit
   | apply BlockQ.normal
   | apply BlockQ.ret
   | apply BlockQ.here
   | refine zbt ?_
   | apply LoopS.ret
   | apply LoopS.exit
   | apply LoopF.ret
   | apply LoopF.exit
   | apply V.regK
    | refine zva ?_
   | refine zvb ?_
   | refine zvc ?_
   | refine zvd ?_
   | refine zve ?_
   | (refine zvf (fun h => ?_) (fun h => ?_) <;> (replace h := zB h) <;> (try (exfalso; first | exact h | omega)))
    | (refine zfc Tryz.results5 ?_; (try dsimp only)))
  rintro x tr htr hP4
  obtain ⟨A5, rfl, hA5⟩ := hP4.norm hA1
  have sl := setL_len r n col
  have el := erL_len r a b
  have hEq1 : ∀ H, CallRo EZ [] 0 27 [rowA A2 wr, rowA A3 wr] H (.v (.bool true)) := fun H => by simpa using EqRow_run (ys := []) (lo := 0) (H := H) (wr := wr) (wr' := wr) (.inl hA2) (.inl hA3) (by rw [sl]; exact hq) (by rw [sl]; exact hq)
  have hEq2 : ∀ H, Ext _ H → Ext _ H → CallRo EZ [] 0 27 [rowA A4 (erW r wr a b), rowA A5 (erW r wr a b)] H (.v (.bool true)) := fun H x1 x2 => by simpa using EqRow_run (ys := []) (lo := 0) (H := H) (wr := erW r wr a b) (wr' := erW r wr a b) (hA4.ext x1) (hA5.ext x2) (by rw [el]; exact hq) (by rw [el]; exact hq)
  have hBl := fun H => rowBlank_run (ys := []) (lo := 0) (H := H) w hw
  have hRBl := fun H => BlankRow_run (ys := []) (lo := 0) (H := H) w hw
  repeat' (first
   | refine zka ?_
   | refine zkb ?_
   | (apply RKp.op; ((try simp (disch := (first | omega | exact zX | fail)) only [bne_self_eq_false, go_sem, Nat.reduceDiv, Nat.reduceMod, Nat.reduceAdd, Nat.reduceSub, Nat.reduceEqDiff, Nat.reduceLeDiff, Nat.reduceLT, Nat.reduceMul, reduceIte, Nat.reducePow, Int.reduceEq]); exact zL); rfl)
   | (apply RKp.callR; ((first | apply hEq1 | apply hEq2 | apply hBl) <;> (first | assumption | rfl | omega | (refine ⟨?_, ?_⟩ <;> omega) | exact zX)); rfl; intro tr htr)
   | (apply RKp.callRE; (apply hRBl <;> (first | assumption | rfl | omega | (refine ⟨?_, ?_⟩ <;> omega) | exact zX)); (intro x; rfl))
   | refine zkc ?_
   | apply RKg.tt
   | apply RKg.ff
   | refine zkd ?_
   | refine zke ?_
   | refine zkf ?_
   | (refine RKg.split (fun h => ?_) (fun h => ?_) <;> (try rw [h]) <;> (replace h := zB h) <;> (try (exfalso; first | exact h | omega)))
   | apply RK.nil
   | apply V.sq
   | apply V.bl
   | apply V.sc
   | apply V.skip
   | apply V.label
   | apply V.ret
   | apply V.exit
   | apply SeqQ.normal
   | apply SeqQ.ret
   | apply SeqQ.exit
   | apply BlockQ.normal
   | apply BlockQ.ret
   | apply BlockQ.here
   | refine zbt ?_
   | apply LoopS.ret
   | apply LoopS.exit
   | apply LoopF.ret
   | apply LoopF.exit
   | apply V.regK
    | refine zva ?_
   | refine zvb ?_
   | refine zvc ?_
   | refine zvd ?_
   | refine zve ?_
   | (refine zvf (fun h => ?_) (fun h => ?_) <;> (replace h := zB h) <;> (try (exfalso; first | exact h | omega)))
    | (refine zfc Tryz.results5 ?_; (try dsimp only)))
  · simp at h
  · simp at h
  · rintro x tr htr ⟨A6, rfl, hA6⟩
    have bl : (blanks (min (max w 0) 300).toNat).length < 2 ^ 40 := by rw [blanks_len]; omega
    have hEq3 : ∀ H, CallRo EZ [] 0 27 [rowA (.sl 3 (cesA (blanks (min (max w 0) 300).toNat))) false, rowA A6 false] H (.v (.bool true)) := fun H => by simpa using EqRow_run (ys := []) (lo := 0) (H := H) (wr := false) (wr' := false) (.inl (.inl rfl)) (.inl hA6) bl bl
    have hUs := fun H => Used_run (ys := []) (lo := 0) (H := H) (wr := wr) (.inl hA1) hq
    have hRUs := fun H => refUsed_run (ys := []) (lo := 0) (H := H) (wr := wr) (.inl hA1) hq
    have hIs := fun H => IsBlank_R (ys := []) (lo := 0) (H := H) (wr := wr) (.inl hA1) hq
    have hFi := fun H => First_run (ys := []) (lo := 0) (H := H) (wr := wr) (.inl hA1) hq col hc
    have hRFi := fun H => refFirst_run (ys := []) (lo := 0) (H := H) (wr := wr) (.inl hA1) hq col hc
    have hRowA := fun H => Row_R (ys := []) (lo := 0) (H := H) (wr := wr) (.inl hA2) (by rw [sl]; exact hq) (setL_R h32' h32n)
    have hRowB : ∀ H, Ext _ H → CallRo EZ [] 0 30 [rowA A4 (erW r wr a b)] H (.v (.bool (decide (rowG (erL r a b))))) := fun H x1 => Row_R (ys := []) (lo := 0) (H := H) (wr := erW r wr a b) (hA4.ext x1) (by rw [el]; exact hq) (erL_R h32')
    by_cases hG : rowG r
    · have d1 : decide (rowG r) = true := decide_eq_true hG
      have d2 : decide (rowG (setL r col n)) = true := decide_eq_true (setL_ok hG)
      have d3 : decide (rowG (erL r a b)) = true := decide_eq_true (erL_ok hG)
      have hfa := first_alike hG col
      repeat' (first
       | refine zka ?_
       | refine zkb ?_
       | (apply RKp.op; ((try simp (disch := (first | omega | exact zX | fail)) only [d1, d2, d3, if_pos hG, hfa, go_sem, Nat.reduceDiv, Nat.reduceMod, Nat.reduceAdd, Nat.reduceSub, Nat.reduceEqDiff, Nat.reduceLeDiff, Nat.reduceLT, Nat.reduceMul, reduceIte, Nat.reducePow, Int.reduceEq]); exact zL); rfl)
       | (apply RKp.callR; ((first | apply hEq3 | apply hRow | apply hUs | apply hRUs | apply hIs | apply hFi | apply hRFi | apply hRowA | apply hRowB) <;> (first | assumption | rfl | omega | (refine ⟨?_, ?_⟩ <;> omega) | exact zX)); rfl; intro tr htr)
       | refine zkc ?_
       | apply RKg.tt
       | apply RKg.ff
       | refine zkd ?_
       | refine zke ?_
       | refine zkf ?_
       | (refine RKg.split (fun h => ?_) (fun h => ?_) <;> (try rw [h]) <;> (replace h := zB h) <;> (try (exfalso; first | exact h | omega)))
       | apply RK.nil
       | apply V.sq
       | apply V.bl
       | apply V.sc
       | apply V.skip
       | apply V.label
       | apply V.ret
       | apply V.exit
       | apply SeqQ.normal
       | apply SeqQ.ret
       | apply SeqQ.exit
       | apply BlockQ.normal
       | apply BlockQ.ret
       | apply BlockQ.here
       | refine zbt ?_
       | apply LoopS.ret
       | apply LoopS.exit
       | apply LoopF.ret
       | apply LoopF.exit
       | apply V.regK
        | refine zva ?_
       | refine zvb ?_
       | refine zvc ?_
       | refine zvd ?_
       | refine zve ?_
       | (refine zvf (fun h => ?_) (fun h => ?_) <;> (replace h := zB h) <;> (try (exfalso; first | exact h | omega)))
        | (refine zfc Tryz.results5 ?_; (try dsimp only)))
      all_goals first
        | rfl
        | (exfalso; rename_i h; revert h; cases wr <;> simp_all; done)
        | (exfalso; rename_i h2 h; revert h; cases wr <;> simp [hG, h2]; done)
        | trace_state
    · have d1 : decide (rowG r) = false := decide_eq_false hG
      repeat' (first
       | refine zka ?_
       | refine zkb ?_
       | (apply RKp.op; ((try simp (disch := (first | omega | exact zX | fail)) only [d1, if_neg hG, go_sem, Nat.reduceDiv, Nat.reduceMod, Nat.reduceAdd, Nat.reduceSub, Nat.reduceEqDiff, Nat.reduceLeDiff, Nat.reduceLT, Nat.reduceMul, reduceIte, Nat.reducePow, Int.reduceEq]); exact zL); rfl)
       | (apply RKp.callR; ((first | apply hEq3 | apply hRow | apply hUs | apply hIs) <;> (first | assumption | rfl | omega | (refine ⟨?_, ?_⟩ <;> omega) | exact zX)); rfl; intro tr htr)
       | refine zkc ?_
       | apply RKg.tt
       | apply RKg.ff
       | refine zkd ?_
       | refine zke ?_
       | refine zkf ?_
       | (refine RKg.split (fun h => ?_) (fun h => ?_) <;> (try rw [h]) <;> (replace h := zB h) <;> (try (exfalso; first | exact h | omega)))
       | apply RK.nil
       | apply V.sq
       | apply V.bl
       | apply V.sc
       | apply V.skip
       | apply V.label
       | apply V.ret
       | apply V.exit
       | apply SeqQ.normal
       | apply SeqQ.ret
       | apply SeqQ.exit
       | apply BlockQ.normal
       | apply BlockQ.ret
       | apply BlockQ.here
       | refine zbt ?_
       | apply LoopS.ret
       | apply LoopS.exit
       | apply LoopF.ret
       | apply LoopF.exit
       | apply V.regK
        | refine zva ?_
       | refine zvb ?_
       | refine zvc ?_
       | refine zvd ?_
       | refine zve ?_
       | (refine zvf (fun h => ?_) (fun h => ?_) <;> (replace h := zB h) <;> (try (exfalso; first | exact h | omega)))
        | (refine zfc Tryz.results5 ?_; (try dsimp only)))
      all_goals first
        | (simp [hG]; done)
        | trace_state
theorem wd_cellsS {d : Nat} {u : List AV} (h : Wd Tryz.prog (d + 3) 45 u) : ∃ (A : AV) (l : List Ce), u = [A] ∧ Sl 3 A (cesA l) ∧ l.length < 2 ^ 63 ∧ R32 l := by
  unfold Wd at h
  rw [Tryz.underlying45] at h
  obtain ⟨x, es, rfl, hs, hlen, he⟩ := h
  obtain ⟨l, rfl, hr⟩ := wd_cells he
  have hc3 : Tryz.prog.cellsOf 61 = 3 := by kernel_rfl
  rw [hc3] at hs
  refine ⟨x, l, rfl, hs, ?_, hr⟩
  rw [ces_len] at hlen
  unfold maxLen at hlen; omega
theorem RowAll_run (u : List AV) (h : Wd Tryz.prog 6 47 u) (col : Int) (hc : (Lit.int .i64 col).wf = true) (v : List AV) (hv : Wd Tryz.prog 6 45 v) (a : Int) (ha : (Lit.int .i64 a).wf = true) (b : Int) (hb : (Lit.int .i64 b).wf = true) (w : Int) (hw : (Lit.int .i64 w).wf = true) : WC EZ [] 0 5 [.agg u, .v (.int .i64 col), v.getD 0 .dead, .v (.int .i64 a), .v (.int .i64 b), .v (.int .i64 w)] .empty fun x _ => x = .v (.bool true) := by
  obtain ⟨A, l, wr, rfl, hA, hl, hr⟩ := wd_row h
  obtain ⟨B, m, rfl, hB, hm, hrm⟩ := wd_cellsS hv
  exact RowAll_law hA hl hr hB hm hrm col a b w (i64_wf hc) (i64_wf ha) (i64_wf hb) (i64_wf hw)
end
end Go.Am
