/- RowSpan: what is erased is blank. -/
import Derived.Test.YtoeemmlfcnokiaaGreatRowL
import Derived.Test.YtoeemmlfcnokiaaGreatAmF
set_option linter.all false
set_option linter.deprecated false
namespace Go.Am
open Go.Proofs
set_option maxRecDepth 8000
set_option maxHeartbeats 4000000
theorem eraL_len (l : List Ce) (a b : Nat) : (eraL l a b).length = l.length := by unfold eraL; split <;> simp [putL_len]
theorem era_idem {l : List Ce} {a b : Nat} (h : b ≤ l.length) : eraL (eraL l a b) a b = eraL l a b := by
  unfold eraL
  by_cases he : a = b
  · simp only [if_pos he]
  · simp only [if_neg he]
    by_cases hab : a < b
    · refine ce_ext (by rw [putL_len]) fun j hj => ?_
      rw [putL_len, putL_len] at hj
      have hk := putL_at l a (blanks (b - a))
      rw [blanks_len] at hk
      rw [putL_at _ _ _ _ (by rw [putL_len]; exact hj), blanks_len]
      have e1 := hk j hj
      have e2 := hk a (by omega)
      rw [if_pos (by omega), blanks_at _ _ (by omega)] at e2
      by_cases c1 : a ≤ j ∧ j < a + (b - a)
      · rw [if_pos c1] at e1 ⊢; exact e1.symm
      · rw [if_neg c1] at e1 ⊢
        rw [if_neg (by rw [e2]; simp)]
        by_cases c3 : j = a + (b - a) ∧ (l.getD j zeroC).w = 0
        · have : ((putL l a (blanks (b - a))).getD j zeroC).w ≠ 0 := by
            rw [e1]
            split
            · simp
            · first | (rw [if_pos c3]; simp) | simp
          rw [if_neg (fun z => this z.2)]
        · by_cases c4 : j = a + (b - a)
          · have : ((putL l a (blanks (b - a))).getD j zeroC).w ≠ 0 := by
              rw [e1]
              split
              · simp
              · first | (rw [if_neg c3]; exact fun z => c3 ⟨c4, z⟩) | exact fun z => c3 ⟨c4, z⟩
            rw [if_neg (fun z => this z.2)]
          · rw [if_neg (fun z => c4 z.1)]
    · have hz : b - a = 0 := by omega
      have hb0 : blanks (b - a) = [] := by rw [hz]; rfl
      have : ∀ l : List Ce, putL (putL l a []) a [] = putL l a [] := fun l => by
        refine ce_ext (by rw [putL_len]) fun j hj => ?_
        rw [putL_len, putL_len] at hj
        rw [putL_at _ _ _ _ (by rw [putL_len]; exact hj)]
        by_cases ha : a < l.length
        · simp only [putL_at _ _ _ _ hj, putL_at _ _ _ _ ha, List.length_nil, Nat.add_zero]
          grind
        · have hg : (putL l a []).getD a zeroC = zeroC := by simp [List.getD_eq_getElem?_getD, List.getElem?_eq_none (by rw [putL_len]; omega : (putL l a []).length ≤ a)]
          have hg2 : l.getD a zeroC = zeroC := by simp [List.getD_eq_getElem?_getD, List.getElem?_eq_none (by omega : l.length ≤ a)]
          simp only [putL_at _ _ _ _ hj, hg, hg2, List.length_nil, Nat.add_zero]
          grind
      rw [hb0]; exact this l
theorem eraG {l : List Ce} (hl : rowG l) {a b : Nat} (h : a ≤ b) (hb : b ≤ l.length) : rowG (eraL l a b) := by
  unfold eraL
  split
  · exact hl
  · exact put_rowG hl _ _ (by rw [blanks_len]; omega) (by rw [blanks_len]; omega) (blank_cells _)
theorem era_in {l : List Ce} {a b : Nat} (hb : b ≤ l.length) (j : Nat) (h1 : a ≤ j) (h2 : j < b) : (eraL l a b).getD j zeroC = blankC := by
  unfold eraL
  rw [if_neg (by omega), putL_at _ _ _ _ (by omega), blanks_len, if_pos (by omega), blanks_at _ _ (by omega)]
theorem era_out {l : List Ce} {a b : Nat} (hab : a ≤ b) (hb : b ≤ l.length) (j : Nat) (hj : j < l.length) (h1 : ¬ (a ≤ j ∧ j < b)) (h2 : j + 1 ≠ a) (h3 : j ≠ b) : (eraL l a b).getD j zeroC = l.getD j zeroC := by
  unfold eraL
  split
  · rfl
  · rw [putL_at _ _ _ _ hj, blanks_len, if_neg (by omega), if_neg (fun z => h2 z.1), if_neg (fun z => h3 (by omega))]
theorem eraW_idem (l : List Ce) (wr : Bool) (a b : Int) (h : l.length = (eraL l a.toNat b.toNat).length) : eraW (eraL l a.toNat b.toNat) (eraW l wr a b) a b = eraW l wr a b := by
  unfold eraW; rw [← h]; cases wr <;> simp
theorem R32_take {l : List Ce} (h : R32 l) (n : Nat) : R32 (l.take n) := fun i => by
  rcases Nat.lt_or_ge i (l.take n).length with hi | hi
  · have : (l.take n).getD i zeroC = l.getD i zeroC := by
      simp only [List.length_take] at hi
      simp [List.getD_eq_getElem?_getD, List.getElem?_take, show i < n by omega]
    rw [this]; exact h i
  · simp [List.getD_eq_getElem?_getD, List.getElem?_eq_none hi]
section
variable {ys : List (Nat × LRec)} {lo : Nat} {H : AHeap} {A B : AV} {l m : List Ce} {wr wr' : Bool}
theorem begun_R : CallR EZ ys lo 14 [] H (.v (.bool true)) H ⟨0, 0, 0⟩ := by
  obtain ⟨H', h⟩ := isT_ok begun_run
  exact WC.pure' (E := EZ) rfl rfl ⟨_, _, _, h, rfl⟩ _ _ _
theorem RowSpan_law (hA : Sl 3 A (cesA l)) (hl : l.length < 2 ^ 63) (h32 : R32 l) (a b : Int) (ha : -9223372036854775808 ≤ a ∧ a ≤ 9223372036854775807) (hb : -9223372036854775808 ≤ b ∧ b ≤ 9223372036854775807) : WC EZ [] 0 7 [rowA A wr, .v (.int .i64 a), .v (.int .i64 b)] .empty fun x _ => x = .v (.bool true) := by
  have hA0 : ∀ H, SlH H 3 A (cesA l) := fun H => .inl hA
  have hl4 := fun H => law4Row_run (ys := []) (lo := 0) (H := H) (wr := wr) (hA0 H) hl
  refine zvin Tryz.func7 Tryz.ntmps7 ?_
  repeat' (first
   | refine zka ?_
   | refine zkb ?_
   | (apply RKp.op; ((try simp (disch := (first | omega | exact zX | fail)) only [go_sem, Nat.reduceDiv, Nat.reduceMod, Nat.reduceAdd, Nat.reduceSub, Nat.reduceEqDiff, Nat.reduceLeDiff, Nat.reduceLT, Nat.reduceMul, reduceIte, Nat.reducePow, Int.reduceEq]); exact zL); rfl)
   | (apply RKp.call; (apply begun_R <;> (exact zD)); rfl)
   | (apply RKp.callRE; (apply hl4 <;> (exact zD)); (intro x; rfl))
   | refine zkc ?_
   | apply RKg.tt
   | apply RKg.ff
   | refine zkd ?_
   | refine zke ?_
   | refine zkf ?_
   | (refine RKg.split (fun h => ?_) (fun h => ?_) <;> (try rw [h]) <;> (replace h := zB h) <;> (try (exfalso; first | exact h | omega)))
   | apply RK.nil
   | apply V.sq
   | apply V.bl
   | apply V.sc
   | apply V.skip
   | apply V.label
   | apply V.ret
   | apply V.exit
   | apply SeqQ.normal
   | apply SeqQ.ret
   | apply SeqQ.exit
   | apply BlockQ.normal
   | apply BlockQ.ret
   | apply BlockQ.here
   | refine zbt ?_
   | apply LoopS.ret
   | apply LoopS.exit
   | apply LoopF.ret
   | apply LoopF.exit
   | apply V.regK
    | refine zva ?_
   | refine zvb ?_
   | refine zvc ?_
   | refine zvd ?_
   | refine zve ?_
   | (refine zvf (fun h => ?_) (fun h => ?_) <;> (replace h := zB h) <;> (try (exfalso; first | exact h | omega)))
    | (refine zfc Tryz.results7 ?_; (try dsimp only)))
  rintro x tr htr ⟨A1, rfl, hA1⟩
  have hq : (l.take 310).length < 2 ^ 40 := by rw [List.length_take]; omega
  have h32' := R32_take h32 310
  generalize l.take 310 = r at *
  have hA1' : ∀ H, SlH H 3 A1 (cesA r) := fun H => .inl hA1
  have hA' : SlH .empty 3 A1 (cesA r) := .inl hA1
  have hRow := fun H => Row_R (ys := []) (lo := 0) (H := H) (wr := wr) (hA1' H) hq h32'
  have hEra := fun H => Erase_run (ys := []) (lo := 0) (H := H) (wr := wr) (hA1' H) hq a b ha hb
  repeat' (first
   | refine zka ?_
   | refine zkb ?_
   | (apply RKp.op; ((try simp (disch := (first | omega | exact zX | fail)) only [len_cellX 0 hA', ix_cellX 0 hA', ld_cellX 0 hA', fa_cellX 0 hA', lf_wX 0 hA', lf_aX 0 hA', lf_rX 0 hA', sl_hiX 0 hA', sl_loX 0 hA', sl_lohiX 0 hA', go_sem, Nat.reduceDiv, Nat.reduceMod, Nat.reduceAdd, Nat.reduceSub, Nat.reduceEqDiff, Nat.reduceLeDiff, Nat.reduceLT, Nat.reduceMul, reduceIte, Nat.reducePow, Int.reduceEq]); exact zL); rfl)
   | (apply RKp.callR; (apply hRow <;> (exact zD)); rfl; intro tr htr)
   | (apply RKp.callRE; (apply hEra <;> (exact zD)); (intro x; rfl))
   | refine zkc ?_
   | apply RKg.tt
   | apply RKg.ff
   | refine zkd ?_
   | refine zke ?_
   | refine zkf ?_
   | (refine RKg.split (fun h => ?_) (fun h => ?_) <;> (try rw [h]) <;> (replace h := zB h) <;> (try (exfalso; first | exact h | omega)))
   | apply RK.nil
   | apply V.sq
   | apply V.bl
   | apply V.sc
   | apply V.skip
   | apply V.label
   | apply V.ret
   | apply V.exit
   | apply SeqQ.normal
   | apply SeqQ.ret
   | apply SeqQ.exit
   | apply BlockQ.normal
   | apply BlockQ.ret
   | apply BlockQ.here
   | refine zbt ?_
   | apply LoopS.ret
   | apply LoopS.exit
   | apply LoopF.ret
   | apply LoopF.exit
   | apply V.regK
    | refine zva ?_
   | refine zvb ?_
   | refine zvc ?_
   | refine zvd ?_
   | refine zve ?_
   | (refine zvf (fun h => ?_) (fun h => ?_) <;> (replace h := zB h) <;> (try (exfalso; first | exact h | omega)))
    | (refine zfc Tryz.results7 ?_; (try dsimp only)))
  rintro x tr htr (⟨hok, A2, rfl, hB'⟩ | ⟨hno, rfl⟩)
  · obtain ⟨k1, k2, k3, k4⟩ := hok
    have el := eraL_len r a.toNat b.toNat
    have eG := eraG k1 (a := a.toNat) (b := b.toNat) (by omega) (by omega)
    have hel : (eraL r a.toNat b.toNat).length < 2 ^ 40 := by rw [el]; exact hq
    repeat' (first
     | refine zka ?_
     | refine zkb ?_
     | (apply RKp.op; ((try simp (disch := (first | omega | exact zX | fail)) only [len_cellX 0 hA', ix_cellX 0 hA', ld_cellX 0 hA', fa_cellX 0 hA', lf_wX 0 hA', lf_aX 0 hA', lf_rX 0 hA', sl_hiX 0 hA', sl_loX 0 hA', sl_lohiX 0 hA', len_cellX 0 hB', ix_cellX 0 hB', ld_cellX 0 hB', fa_cellX 0 hB', lf_wX 0 hB', lf_aX 0 hB', lf_rX 0 hB', sl_hiX 0 hB', sl_loX 0 hB', sl_lohiX 0 hB', el, go_sem, Nat.reduceDiv, Nat.reduceMod, Nat.reduceAdd, Nat.reduceSub, Nat.reduceEqDiff, Nat.reduceLeDiff, Nat.reduceLT, Nat.reduceMul, reduceIte, Nat.reducePow, Int.reduceEq]); exact zL); rfl)
     | refine zkc ?_
     | apply RKg.tt
     | apply RKg.ff
     | refine zkd ?_
     | refine zke ?_
     | refine zkf ?_
     | (refine RKg.split (fun h => ?_) (fun h => ?_) <;> (try rw [h]) <;> (replace h := zB h) <;> (try (exfalso; first | exact h | omega)))
     | apply RK.nil
     | apply V.sq
     | apply V.bl
     | apply V.sc
     | apply V.skip
     | apply V.label
     | apply V.ret
     | apply V.exit
     | apply SeqQ.normal
     | apply SeqQ.ret
     | apply SeqQ.exit
     | apply BlockQ.normal
     | apply BlockQ.ret
     | apply BlockQ.here
     | refine zbt ?_
     | apply LoopS.ret
     | apply LoopS.exit
     | apply LoopF.ret
     | apply LoopF.exit
     | apply V.regK
      | refine zva ?_
     | refine zvb ?_
     | refine zvc ?_
     | refine zvd ?_
     | refine zve ?_
     | (refine zvf (fun h => ?_) (fun h => ?_) <;> (replace h := zB h) <;> (try (exfalso; first | exact h | omega)))
      | (refine zfc Tryz.results7 ?_; (try dsimp only)))
    apply V.lpF [59, 6, 10, 11, 60, 61, 62, 63, 64, 65, 66, 67, 68, 69, 70, 71, 72, 73, 74, 75, 76, 77, 78, 79, 80, 81, 82, 83, 84, 85, 86, 87, 88, 89, 90, 91, 92, 93, 94, 95, 96, 97, 98, 99, 100, 101, 102, 103, 104, 105, 106, 107, 108] (fun k xs => ∃ (i : Nat) (g : _), xs = .v (.int .i64 i) :: g ∧ k = r.length - i ∧ i ≤ r.length) r.length
    focus (intro xs; simp only [putMany, set2, Nat.reduceAdd, Nat.reduceDiv, Nat.reduceMod, nth_zero, nth_succ, List.set_cons_zero, List.set_cons_succ]; rfl)
    focus (first | rfl | simp only [readMany, nth_zero, nth_succ, Nat.reduceDiv, Nat.reduceMod])
    · exact ⟨0, _, rfl, rfl, Nat.zero_le _⟩
    · rintro k xs ⟨i, g, rfl, rfl, hi⟩
      have hB2 : SlH ((AHeap.empty.push (rblk A1 wr)).push (rblk A2 (eraW r wr a b))) 3 A2 (cesA (eraL r a.toNat b.toNat)) := hB'.push _
      have hEra2 := Erase_run (ys := []) (lo := 0) (wr := eraW r wr a b) hB2 hel a b ha hb
      repeat' (first
       | refine zka ?_
       | refine zkb ?_
       | (apply RKp.op; ((try simp (disch := (first | omega | exact zX | fail)) only [len_cellX 0 hA', ix_cellX 0 hA', ld_cellX 0 hA', fa_cellX 0 hA', lf_wX 0 hA', lf_aX 0 hA', lf_rX 0 hA', sl_hiX 0 hA', sl_loX 0 hA', sl_lohiX 0 hA', len_cellX 0 hB', ix_cellX 0 hB', ld_cellX 0 hB', fa_cellX 0 hB', lf_wX 0 hB', lf_aX 0 hB', lf_rX 0 hB', sl_hiX 0 hB', sl_loX 0 hB', sl_lohiX 0 hB', el, eqC1, Int.toNat_natCast, go_sem, Nat.reduceDiv, Nat.reduceMod, Nat.reduceAdd, Nat.reduceSub, Nat.reduceEqDiff, Nat.reduceLeDiff, Nat.reduceLT, Nat.reduceMul, reduceIte, Nat.reducePow, Int.reduceEq]); exact zL); rfl)
       | (apply RKp.call; (apply refBlank_run <;> (exact zD)); rfl)
       | (apply RKp.callRE; (apply hEra2 <;> (exact zD)); (intro x; rfl))
       | refine zkc ?_
       | apply RKg.tt
       | apply RKg.ff
       | refine zkd ?_
       | refine zke ?_
       | refine zkf ?_
       | (refine RKg.split (fun h => ?_) (fun h => ?_) <;> (try rw [h]) <;> (replace h := zB h) <;> (try (exfalso; first | exact h | omega)))
       | apply RK.nil
       | apply V.sq
       | apply V.bl
       | apply V.sc
       | apply V.skip
       | apply V.label
       | apply V.ret
       | apply V.exit
       | apply SeqQ.normal
       | apply SeqQ.ret
       | apply SeqQ.exit
       | apply BlockQ.normal
       | apply BlockQ.ret
       | apply BlockQ.here
       | refine zbt ?_
       | apply LoopS.ret
       | apply LoopS.exit
       | apply LoopF.ret
       | apply LoopF.exit
       | apply V.regK
        | refine zva ?_
       | refine zvb ?_
       | refine zvc ?_
       | refine zvd ?_
       | refine zve ?_
       | (refine zvf (fun h => ?_) (fun h => ?_) <;> (replace h := zB h) <;> (try (exfalso; first | exact h | omega)))
        | (refine zfc Tryz.results7 ?_; (try dsimp only)))
      all_goals first
        | (refine LoopF.again (r.length - (i + 1)) (by rfl) (by omega) ⟨i + 1, _, rfl, rfl, by omega⟩)
        | (exfalso; rename_i h; exact h (Ce.eqv.1 (era_in (by omega) i (by omega) (by omega))))
        | (exfalso; rename_i h; apply h; rw [era_out (by omega) (by omega) i (by omega) (by omega) (by omega) (by omega)]; exact ⟨rfl, rfl, rfl⟩)
        | (rintro x tr2 htr2 (⟨hok2, A3, rfl, hC'⟩ | ⟨hno, rfl⟩)
           · have hid := era_idem (l := r) (a := a.toNat) (b := b.toNat) (by omega)
             have hw := eraW_idem r wr a b el.symm
             rw [hid] at hC'
             have hC2 : SlH (((AHeap.empty.push (rblk A1 wr)).push (rblk A2 (eraW r wr a b))).push (rblk A3 (eraW (eraL r a.toNat b.toNat) (eraW r wr a b) a b))) 3 A3 (cesA (eraL r a.toNat b.toNat)) := hC'.push _
             have hB3 : SlH (((AHeap.empty.push (rblk A1 wr)).push (rblk A2 (eraW r wr a b))).push (rblk A3 (eraW (eraL r a.toNat b.toNat) (eraW r wr a b) a b))) 3 A2 (cesA (eraL r a.toNat b.toNat)) := hB2.push _
             have hEq := EqRow_run (ys := []) (lo := 0) (wr := eraW r wr a b) (wr' := eraW (eraL r a.toNat b.toNat) (eraW r wr a b) a b) hB3 hC2 hel hel
             rw [hw] at hEq
             repeat' (first
              | refine zka ?_
              | refine zkb ?_
              | (apply RKp.op; ((try simp (disch := (first | omega | exact zX | fail)) only [hw, go_sem, Nat.reduceDiv, Nat.reduceMod, Nat.reduceAdd, Nat.reduceSub, Nat.reduceEqDiff, Nat.reduceLeDiff, Nat.reduceLT, Nat.reduceMul, reduceIte, Nat.reducePow, Int.reduceEq]); exact zL); rfl)
              | (apply RKp.callR; (apply hEq <;> (exact zD)); rfl; intro tr htr)
              | refine zkc ?_
              | apply RKg.tt
              | apply RKg.ff
              | refine zkd ?_
              | refine zke ?_
              | refine zkf ?_
              | (refine RKg.split (fun h => ?_) (fun h => ?_) <;> (try rw [h]) <;> (replace h := zB h) <;> (try (exfalso; first | exact h | omega)))
              | apply RK.nil
              | apply V.sq
              | apply V.bl
              | apply V.sc
              | apply V.skip
              | apply V.label
              | apply V.ret
              | apply V.exit
              | apply SeqQ.normal
              | apply SeqQ.ret
              | apply SeqQ.exit
              | apply BlockQ.normal
              | apply BlockQ.ret
              | apply BlockQ.here
              | refine zbt ?_
              | apply LoopS.ret
              | apply LoopS.exit
              | apply LoopF.ret
              | apply LoopF.exit
              | apply V.regK
               | refine zva ?_
              | refine zvb ?_
              | refine zvc ?_
              | refine zvd ?_
              | refine zve ?_
              | (refine zvf (fun h => ?_) (fun h => ?_) <;> (replace h := zB h) <;> (try (exfalso; first | exact h | omega)))
               | (refine zfc Tryz.results7 ?_; (try dsimp only)))
             simp
           · exfalso
             apply hno
             refine ⟨eG, by omega, by omega, by rw [el]; omega⟩)
        | trace_state
  · exfalso
    apply hno
    refine ⟨?_, ?_, ?_, ?_⟩ <;> first | assumption | omega
/-! What came in. -/
theorem wd_cell {d : Nat} {c : List AV} (h : Wd Tryz.prog (d + 2) 61 c) : ∃ x : Ce, c = ceA x ∧ (-2147483648 ≤ x.r ∧ x.r ≤ 2147483647) ∧ (-9223372036854775808 ≤ x.w ∧ x.w ≤ 9223372036854775807) ∧ (-9223372036854775808 ≤ x.a ∧ x.a ≤ 9223372036854775807) := by
  unfold Wd at h
  rw [Tryz.underlying61] at h
  obtain ⟨parts, rfl, hl, hp⟩ := h
  match parts, hl with
  | [p0, p1, p2], _ =>
    have h0 := hp 0 _ p0 rfl rfl
    have h1 := hp 1 _ p1 rfl rfl
    have h2 := hp 2 _ p2 rfl rfl
    simp only [Wd, Tryz.underlying21, Tryz.underlying3] at h0 h1 h2
    obtain ⟨r, rfl, hr⟩ := h0
    obtain ⟨w, rfl, hw⟩ := h1
    obtain ⟨a, rfl, ha⟩ := h2
    exact ⟨⟨r, w, a⟩, rfl, i32_wf hr, i64_wf hw, i64_wf ha⟩
theorem wd_cells {d : Nat} {es : List (List AV)} (h : ∀ c ∈ es, Wd Tryz.prog (d + 2) 61 c) : ∃ l : List Ce, es = cesA l ∧ R32 l := by
  induction es with
  | nil => exact ⟨[], rfl, fun i => by simp⟩
  | cons c r ih =>
    obtain ⟨x, rfl, hx, _⟩ := wd_cell (h c List.mem_cons_self)
    obtain ⟨l, rfl, hl⟩ := ih fun c hc => h c (List.mem_cons_of_mem _ hc)
    refine ⟨x :: l, rfl, fun i => ?_⟩
    cases i with
    | zero => exact hx
    | succ i => exact hl i
theorem wd_row {d : Nat} {u : List AV} (h : Wd Tryz.prog (d + 4) 47 u) : ∃ (A : AV) (l : List Ce) (wr : Bool), u = [A, .v (.bool wr)] ∧ Sl 3 A (cesA l) ∧ l.length < 2 ^ 63 ∧ R32 l := by
  unfold Wd at h
  rw [Tryz.underlying47] at h
  obtain ⟨parts, rfl, hl, hp⟩ := h
  match parts, hl with
  | [p0, p1], _ =>
    have h0 : Wd Tryz.prog (d + 3) 45 p0 := hp 0 _ p0 rfl rfl
    have h1 : Wd Tryz.prog (d + 3) 4 p1 := hp 1 _ p1 rfl rfl
    unfold Wd at h0 h1
    rw [Tryz.underlying45] at h0
    rw [Tryz.underlying4] at h1
    obtain ⟨x, es, rfl, hs, hlen, he⟩ := h0
    obtain ⟨b, rfl⟩ := h1
    obtain ⟨l, rfl, hr⟩ := wd_cells he
    have hc3 : Tryz.prog.cellsOf 61 = 3 := by kernel_rfl
    rw [hc3] at hs
    refine ⟨x, l, b, rfl, hs, ?_, hr⟩
    rw [ces_len] at hlen
    unfold maxLen at hlen; omega
theorem RowSpan_run (u : List AV) (h : Wd Tryz.prog 6 47 u) (a : Int) (ha : (Lit.int .i64 a).wf = true) (b : Int) (hb : (Lit.int .i64 b).wf = true) : WC EZ [] 0 7 [.agg u, .v (.int .i64 a), .v (.int .i64 b)] .empty fun x _ => x = .v (.bool true) := by
  obtain ⟨A, l, wr, rfl, hA, hl, hr⟩ := wd_row h
  exact RowSpan_law hA hl hr a b (i64_wf ha) (i64_wf hb)
end
end Go.Am
