
/- The program's screen: csi, Do. -/
import Derived.Test.YtmcimfmibpfnhaaGreatPScr5
set_option linter.all false
set_option linter.deprecated false
namespace Go.Am
variable {oc : Orc} [OrcI oc] [OrcF oc]
open Go.Proofs
set_option maxRecDepth 8000
set_option maxHeartbeats 4000000
section
variable {ys : List (Nat × LRec)} {lo : Nat} {H : AHeap} {n m e : Nat} {s : Sc} {A : AV} {a : List Int}
theorem argD_pos {a : List Int} (h : ∀ x ∈ a, 0 ≤ x) (i : Nat) : 0 ≤ a.getD i 0 := by
  rcases Nat.lt_or_ge i a.length with hi | hi
  · exact h _ (getMem 0 hi)
  · simp [List.getD_eq_getElem?_getD, List.getElem?_eq_none hi]
theorem fold_take (a : List Int) (i : Nat) (x : Int) (h : i < a.length) : (a.take (i + 1)).foldl (fun _ n => n % 256) x = a.getD i 0 % 256 := by
  rw [List.take_succ_eq_append_getElem h, List.foldl_append, List.getD_eq_getElem?_getD, List.getElem?_eq_getElem h]; rfl
theorem fold_any (a : List Int) (x y : Int) (h : a ≠ []) : a.foldl (fun _ n => n % 256) x = a.foldl (fun _ n => n % 256) y := by
  cases a with
  | nil => exact absurd rfl h
  | cons b a => rfl
theorem csi_run (hS : SP 127 lo H n m e s) (hg : ScG s) (k r : Int) (t : ByteArray) (hA : SlH H 1 A (ints a)) (hA0 : ∀ k, nameOf A k → k ≠ n ∧ k ≠ m) (hl : a.length < 2 ^ 40) (ha : ∀ x ∈ a, 0 ≤ x ∧ x ≤ 9999) : CallE (ELo oc) ys lo 123 [.op n 0 0 0, .agg [.v (.int .i64 k), .v (.int .i32 r), A, .v (.string t)]] H fun x H' => x = .tup [] ∧ SP 127 lo H' n m e (s.csi r a) ∧ Fr H H' n m m := by
  have ⟨nl, ml, nn, mn, ne, hb, hm⟩ := hS
  have w2 := hg.w2; have w3 := hg.w3; have c0 := hg.c0; have cw := hg.cw
  have hct := cells_SlH hA
  have hS0 := hS.turn { s with col := min s.col (s.w - 1) } rfl
  have hF0 := (Fr.refl H n m).setn ⟨127, 6, 0, [[.v (.int .i64 s.w), .v (.int .i64 s.h), .os m e 0 s.rows.length, .v (.int .i64 s.row), .v (.int .i64 (min s.col (s.w - 1))), .v (.int .i64 s.attr)]], none⟩
  have hA1 := hF0.ext hA hA0
  have hAn : ∀ b, SlH (H.set n b) 1 A (ints a) := fun b => ((Fr.refl H n m).setn b).ext hA hA0
  have hg1 := hg.col (c := min s.col (s.w - 1)) (by omega) (by omega)
  have hS1 := hS0.ext ((Ext.refl _).push (evk k r A t))
  have hF1 := hF0.push (evk k r A t)
  have hcw : min s.col (s.w - 1) < s.w := by omega
  have hnu := fun ys G (x : Ext _ G) => number_R (ys := ys) (lo := lo) (H := G) (hA1.ext x) hl k r t 0 0 (by omega) (by omega)
  have hcl := fun ys all => clears_run (ys := ys) hS1 hg1 hcw (argI a 0 0) all
  have hmv := fun ys => moves_run (ys := ys) hS1 hg1 hcw k r t (hA1.push (evk k r A t)) hl ha
  have hcs : s.csi r a = if isCsi r then (if r = 74 then ({ s with col := min s.col (s.w - 1) } : Sc).clr (argI a 0 0) true else if r = 75 then ({ s with col := min s.col (s.w - 1) } : Sc).clr (argI a 0 0) false else if r = 109 then ({ s with col := min s.col (s.w - 1), attr := a.foldl (fun _ n => n % 256) 0 } : Sc) else ({ s with col := min s.col (s.w - 1) } : Sc).mov r a) else s := rfl
  refine WC.effE rfl ?_
  by_cases hi : isCsi r
  · rw [hcs, if_pos hi]
    by_cases h1 : r = 74
    · subst h1
      refine zvin Tryz.func123 Tryz.ntmps123 ?_
      repeat' (first | refine zka ?_ | refine zkb ?_ | (apply RKp.op; ((try simp (disch := (first | exact zQ | fail)) only [hb, hm, nth_rowsA, rowsA_len, rowsA_set, hct, Int.toNat_zero, go_sem]); exact zL); rfl) | (apply RKp.callR; (apply hnu <;> (exact zD)); rfl; intro tr htr) | (apply RKp.callE; (apply hcl <;> (exact zD)); (intro x; rfl)) | refine zkc ?_ | refine zz ?_ | refine zkd ?_ | refine zke ?_ | refine zkf ?_ | (refine RKg.split (fun h => ?_) (fun h => ?_) <;> (try rw [h]) <;> (replace h := zB h) <;> (try (exfalso; first | exact h | omega))) | refine zbt ?_ | apply V.regK | refine zva ?_ | refine zvb ?_ | refine zgc ?_ | refine zvd ?_ | refine zve ?_ | (refine zvf (fun h => ?_) (fun h => ?_) <;> (replace h := zB h) <;> (try (exfalso; first | exact h | omega))) | (refine zfa Tryz.results123 ?_; (try dsimp only)) | (refine zfb Tryz.results123 ?_; (try dsimp only)))
      rintro x H2 tr ⟨rfl, hS2, hF2⟩
      repeat' (first | refine zka ?_ | refine zkb ?_ | (apply RKp.op; ((try simp (disch := (first | exact zQ | fail)) only [go_sem]); exact zL); rfl) | refine zkc ?_ | refine zz ?_ | refine zkd ?_ | refine zke ?_ | refine zkf ?_ | (refine RKg.split (fun h => ?_) (fun h => ?_) <;> (try rw [h]) <;> (replace h := zB h) <;> (try (exfalso; first | exact h | omega))) | refine zbt ?_ | apply V.regK | refine zva ?_ | refine zvb ?_ | refine zgc ?_ | refine zvd ?_ | refine zve ?_ | (refine zvf (fun h => ?_) (fun h => ?_) <;> (replace h := zB h) <;> (try (exfalso; first | exact h | omega))) | (refine zfa Tryz.results123 ?_; (try dsimp only)) | (refine zfb Tryz.results123 ?_; (try dsimp only)))
      exact ⟨rfl, hS2, hF1.trans hF2⟩
    by_cases h2 : r = 75
    · subst h2
      refine zvin Tryz.func123 Tryz.ntmps123 ?_
      repeat' (first | refine zka ?_ | refine zkb ?_ | (apply RKp.op; ((try simp (disch := (first | exact zQ | fail)) only [hb, hm, nth_rowsA, rowsA_len, rowsA_set, hct, Int.toNat_zero, go_sem]); exact zL); rfl) | (apply RKp.callR; (apply hnu <;> (exact zD)); rfl; intro tr htr) | (apply RKp.callE; (apply hcl <;> (exact zD)); (intro x; rfl)) | refine zkc ?_ | refine zz ?_ | refine zkd ?_ | refine zke ?_ | refine zkf ?_ | (refine RKg.split (fun h => ?_) (fun h => ?_) <;> (try rw [h]) <;> (replace h := zB h) <;> (try (exfalso; first | exact h | omega))) | refine zbt ?_ | apply V.regK | refine zva ?_ | refine zvb ?_ | refine zgc ?_ | refine zvd ?_ | refine zve ?_ | (refine zvf (fun h => ?_) (fun h => ?_) <;> (replace h := zB h) <;> (try (exfalso; first | exact h | omega))) | (refine zfa Tryz.results123 ?_; (try dsimp only)) | (refine zfb Tryz.results123 ?_; (try dsimp only)))
      rintro x H2 tr ⟨rfl, hS2, hF2⟩
      repeat' (first | refine zka ?_ | refine zkb ?_ | (apply RKp.op; ((try simp (disch := (first | exact zQ | fail)) only [go_sem]); exact zL); rfl) | refine zkc ?_ | refine zz ?_ | refine zkd ?_ | refine zke ?_ | refine zkf ?_ | (refine RKg.split (fun h => ?_) (fun h => ?_) <;> (try rw [h]) <;> (replace h := zB h) <;> (try (exfalso; first | exact h | omega))) | refine zbt ?_ | apply V.regK | refine zva ?_ | refine zvb ?_ | refine zgc ?_ | refine zvd ?_ | refine zve ?_ | (refine zvf (fun h => ?_) (fun h => ?_) <;> (replace h := zB h) <;> (try (exfalso; first | exact h | omega))) | (refine zfa Tryz.results123 ?_; (try dsimp only)) | (refine zfb Tryz.results123 ?_; (try dsimp only)))
      exact ⟨rfl, hS2, hF1.trans hF2⟩
    by_cases h3 : r = 109
    · subst h3
      rw [if_neg h1, if_neg h2, if_pos rfl]
      refine zvin Tryz.func123 Tryz.ntmps123 ?_
      repeat' (first | refine zka ?_ | refine zkb ?_ | (apply RKp.op; ((try simp (disch := (first | exact zQ | fail)) only [hb, hm, nth_rowsA, rowsA_len, rowsA_set, hct, fun b => len_intX lo (hAn b), Int.toNat_zero, go_sem]); exact zL); rfl) | refine zkc ?_ | refine zz ?_ | refine zkd ?_ | refine zke ?_ | refine zkf ?_ | (refine RKg.split (fun h => ?_) (fun h => ?_) <;> (try rw [h]) <;> (replace h := zB h) <;> (try (exfalso; first | exact h | omega))) | refine zbt ?_ | apply V.regK | refine zva ?_ | refine zvb ?_ | refine zgc ?_ | refine zvd ?_ | refine zve ?_ | (refine zvf (fun h => ?_) (fun h => ?_) <;> (replace h := zB h) <;> (try (exfalso; first | exact h | omega))) | (refine zfa Tryz.results123 ?_; (try dsimp only)) | (refine zfb Tryz.results123 ?_; (try dsimp only)))
      · have e0 : a = [] := List.eq_nil_of_length_eq_zero (by omega)
        subst e0
        apply V.un
        repeat' (first | refine zka ?_ | refine zkb ?_ | (apply RKp.op; ((try simp (disch := (first | exact zQ | fail)) only [hb, hm, nth_rowsA, rowsA_len, rowsA_set, go_sem]); exact zL); rfl) | refine zkc ?_ | refine zz ?_ | refine zkd ?_ | refine zke ?_ | refine zkf ?_ | (refine RKg.split (fun h => ?_) (fun h => ?_) <;> (try rw [h]) <;> (replace h := zB h) <;> (try (exfalso; first | exact h | omega))) | refine zbt ?_ | apply V.regK | refine zva ?_ | refine zvb ?_ | refine zgc ?_ | refine zvd ?_ | refine zve ?_ | (refine zvf (fun h => ?_) (fun h => ?_) <;> (replace h := zB h) <;> (try (exfalso; first | exact h | omega))) | (refine zfa Tryz.results123 ?_; (try dsimp only)) | (refine zfb Tryz.results123 ?_; (try dsimp only)))
        exact ⟨rfl, (hS.turn { s with col := min s.col (s.w - 1), attr := 0 } rfl).ext ((Ext.refl _).push _), ((Fr.refl H n m).setn _).push _⟩
      · have e0 : a ≠ [] := fun h' => h (by rw [h']; rfl)
        rw [fold_any a 0 s.attr e0]
        obtain ⟨at0, hat⟩ : ∃ at0 : Int, at0 = s.attr := ⟨_, rfl⟩
        rw [← hat]
        apply V.lpS [61, 5, 62, 63, 64, 65, 66, 67, 68, 69, 70, 71, 72] (fun k xs H2 => ∃ (i : Nat) (g : _), xs = .v (.int .i64 i) :: g ∧ k = a.length - i ∧ i ≤ a.length ∧ SP 127 lo H2 n m e { s with col := min s.col (s.w - 1), attr := (a.take i).foldl (fun _ n => n % 256) at0 } ∧ Fr H H2 n m m) a.length
        focus (intro xs; simp only [putMany, set2, Nat.reduceAdd, Nat.reduceDiv, Nat.reduceMod, nth_zero, nth_succ, List.set_cons_zero, List.set_cons_succ]; rfl)
        focus (first | rfl | simp only [readMany, nth_zero, nth_succ, Nat.reduceDiv, Nat.reduceMod])
        · exact ⟨0, _, rfl, rfl, Nat.zero_le _, (hS.turn { s with col := min s.col (s.w - 1), attr := at0 } rfl).ext ((Ext.refl _).push _), ((Fr.refl H n m).setn _).push _⟩
        · rintro k xs H2 ⟨i, g, rfl, rfl, hi, hS2, hF2⟩
          have hb2 := hS2.blk; dsimp only at hb2
          have nn2 := hS2.nn
          have hA2 := hF2.ext hA hA0
          have hx : 0 ≤ a.getD i 0 := argD_pos (fun x hx => (ha x hx).1) i
          have e0 : (a.getD i 0).tmod 256 = a.getD i 0 % 256 := Int.tmod_eq_emod_of_nonneg hx
          have e1 : (a.getD i 0 % 256 + 256).tmod 256 = a.getD i 0 % 256 := by rw [Int.tmod_eq_emod_of_nonneg (by omega)]; omega
          repeat' (first | refine zka ?_ | refine zkb ?_ | (apply RKp.op; ((try simp (disch := (first | exact zQ | fail)) only [hb2, len_intX lo hA2, ix_intX lo hA2, ld_intX lo hA2, e0, e1, Int.toNat_natCast, go_sem]); exact zL); rfl) | refine zkc ?_ | refine zz ?_ | refine zkd ?_ | refine zke ?_ | refine zkf ?_ | (refine RKg.split (fun h => ?_) (fun h => ?_) <;> (try rw [h]) <;> (replace h := zB h) <;> (try (exfalso; first | exact h | omega))) | refine zbt ?_ | apply V.regK | refine zva ?_ | refine zvb ?_ | refine zgc ?_ | refine zvd ?_ | refine zve ?_ | (refine zvf (fun h => ?_) (fun h => ?_) <;> (replace h := zB h) <;> (try (exfalso; first | exact h | omega))) | (refine zfa Tryz.results123 ?_; (try dsimp only)) | (refine zfb Tryz.results123 ?_; (try dsimp only)))
          · refine LoopS.again (a.length - (i + 1)) (by rfl) (by omega) ⟨i + 1, _, rfl, rfl, by omega, ?_, hF2.setn _⟩
            have := hS2.turn { s with col := min s.col (s.w - 1), attr := (a.take (i + 1)).foldl (fun _ n => n % 256) at0 } rfl
            rw [show ({ s with col := min s.col (s.w - 1), attr := (a.take (i + 1)).foldl (fun _ n => n % 256) at0 } : Sc).attr = a.getD i 0 % 256 from fold_take a i _ (by omega)] at this
            exact this
          · refine ⟨rfl, ?_, hF2⟩
            have ei : i = a.length := by omega
            subst ei
            rw [List.take_length] at hS2
            exact hS2
    · rw [if_neg h1, if_neg h2, if_neg h3]
      unfold isCsi at hi
      refine zvin Tryz.func123 Tryz.ntmps123 ?_
      repeat' (first | refine zka ?_ | refine zkb ?_ | (apply RKp.op; ((try simp (disch := (first | exact zQ | fail)) only [hb, hm, nth_rowsA, rowsA_len, rowsA_set, hct, Int.toNat_zero, go_sem]); exact zL); rfl) | (apply RKp.callE; (apply hmv <;> (exact zD)); (intro x; rfl)) | refine zkc ?_ | refine zz ?_ | refine zkd ?_ | refine zke ?_ | refine zkf ?_ | (refine RKg.split (fun h => ?_) (fun h => ?_) <;> (try rw [h]) <;> (replace h := zB h) <;> (try (exfalso; first | exact h | omega))) | refine zbt ?_ | apply V.regK | refine zva ?_ | refine zvb ?_ | refine zgc ?_ | refine zvd ?_ | refine zve ?_ | (refine zvf (fun h => ?_) (fun h => ?_) <;> (replace h := zB h) <;> (try (exfalso; first | exact h | omega))) | (refine zfa Tryz.results123 ?_; (try dsimp only)) | (refine zfb Tryz.results123 ?_; (try dsimp only)))
      all_goals first
        | (exfalso; omega)
        | (rintro x H2 tr ⟨rfl, hS2, hF2⟩
           repeat' (first | refine zka ?_ | refine zkb ?_ | (apply RKp.op; ((try simp (disch := (first | exact zQ | fail)) only [go_sem]); exact zL); rfl) | refine zkc ?_ | refine zz ?_ | refine zkd ?_ | refine zke ?_ | refine zkf ?_ | (refine RKg.split (fun h => ?_) (fun h => ?_) <;> (try rw [h]) <;> (replace h := zB h) <;> (try (exfalso; first | exact h | omega))) | refine zbt ?_ | apply V.regK | refine zva ?_ | refine zvb ?_ | refine zgc ?_ | refine zvd ?_ | refine zve ?_ | (refine zvf (fun h => ?_) (fun h => ?_) <;> (replace h := zB h) <;> (try (exfalso; first | exact h | omega))) | (refine zfa Tryz.results123 ?_; (try dsimp only)) | (refine zfb Tryz.results123 ?_; (try dsimp only)))
           exact ⟨rfl, hS2, hF1.trans hF2⟩)
  · rw [hcs, if_neg hi]
    unfold isCsi at hi
    refine zvin Tryz.func123 Tryz.ntmps123 ?_
    repeat' (first | refine zka ?_ | refine zkb ?_ | (apply RKp.op; ((try simp (disch := (first | exact zQ | fail)) only [hb, hm, nth_rowsA, rowsA_len, rowsA_set, hct, Int.toNat_zero, go_sem]); exact zL); rfl) | refine zkc ?_ | refine zz ?_ | refine zkd ?_ | refine zke ?_ | refine zkf ?_ | (refine RKg.split (fun h => ?_) (fun h => ?_) <;> (try rw [h]) <;> (replace h := zB h) <;> (try (exfalso; first | exact h | omega))) | refine zbt ?_ | apply V.regK | refine zva ?_ | refine zvb ?_ | refine zgc ?_ | refine zvd ?_ | refine zve ?_ | (refine zvf (fun h => ?_) (fun h => ?_) <;> (replace h := zB h) <;> (try (exfalso; first | exact h | omega))) | (refine zfa Tryz.results123 ?_; (try dsimp only)) | (refine zfb Tryz.results123 ?_; (try dsimp only)))
    all_goals first
      | (exfalso; omega)
      | exact ⟨rfl, hS.ext ((Ext.refl _).push _), (Fr.refl H n m).push _⟩
theorem Do_run (hS : SP 127 lo H n m e s) (hg : ScG s) (k r : Int) (hr : -2147483648 ≤ r ∧ r ≤ 2147483647) (t : ByteArray) (hA : SlH H 1 A (ints a)) (hA0 : ∀ k, nameOf A k → k ≠ n ∧ k ≠ m) (hl : a.length < 2 ^ 40) (ha : ∀ x ∈ a, 0 ≤ x ∧ x ≤ 9999) : CallE (ELo oc) ys lo 85 [.op n 0 0 0, .agg [.v (.int .i64 k), .v (.int .i32 r), A, .v (.string t)]] H fun x H' => ∃ m' e', SP 127 lo H' n m' e' (s.ev k r a).1 ∧ Fr H H' n m m' ∧ OutS H H' m' x (s.ev k r a).2 := by
  have ⟨nl, ml, nn, mn, ne, hb, hm⟩ := hS
  have hct := cells_SlH hA
  have hS1 := hS.ext ((Ext.refl _).push (evk k r A t))
  have hF1 := (Fr.refl H n m).push (evk k r A t)
  have hpr := fun ys => prints_run (ys := ys) hS1 hg r hr
  have hct' := fun ys => controls_run (ys := ys) hS1 hg r
  have hcs := fun ys => csi_run (ys := ys) hS1 hg k r t (hA.push (evk k r A t)) hA0 hl ha
  have hev : s.ev k r a = if k = 1 then s.pr r else if k = 2 then s.ctl r else if k = 3 then (s.csi r a, []) else (s, []) := rfl
  refine WC.effE rfl ?_
  refine zvin Tryz.func85 Tryz.ntmps85 ?_
  repeat' (first | refine zka ?_ | refine zkb ?_ | (apply RKp.op; ((try simp (disch := (first | exact zQ | fail)) only [hb, hm, nth_rowsA, rowsA_len, rowsA_set, hct, go_sem]); exact zL); rfl) | (apply RKp.call; (apply hct' <;> (exact zD)); rfl) | (apply RKp.callR; (apply hct' <;> (exact zD)); rfl; intro tr htr) | (apply RKp.callO; (apply hct' <;> (exact zD)); rfl; intro tr) | (apply RKp.callRE; (apply hct' <;> (exact zD)); (intro x; rfl)) | (apply RKp.callE; ((first | apply hpr | apply hct' | apply hcs) <;> (exact zD)); (intro x; rfl)) | refine zkc ?_ | refine zz ?_ | refine zkd ?_ | refine zke ?_ | refine zkf ?_ | (refine RKg.split (fun h => ?_) (fun h => ?_) <;> (try rw [h]) <;> (replace h := zB h) <;> (try (exfalso; first | exact h | omega))) | refine zbt ?_ | apply V.regK | refine zvd ?_ | refine zve ?_ | (refine zvf (fun h => ?_) (fun h => ?_) <;> (replace h := zB h) <;> (try (exfalso; first | exact h | omega))) | (refine zfc Tryz.results85 ?_; (try dsimp only)))
  · rintro x H2 tr ⟨m', e', hS2, hF2, hO2⟩
    repeat' (first | refine zka ?_ | refine zkb ?_ | (apply RKp.op; ((try simp (disch := (first | exact zQ | fail)) only [go_sem]); exact zL); rfl) | refine zkc ?_ | refine zz ?_ | refine zkd ?_ | refine zke ?_ | refine zkf ?_ | (refine RKg.split (fun h => ?_) (fun h => ?_) <;> (try rw [h]) <;> (replace h := zB h) <;> (try (exfalso; first | exact h | omega))) | refine zbt ?_ | apply V.regK | refine zvd ?_ | refine zve ?_ | (refine zvf (fun h => ?_) (fun h => ?_) <;> (replace h := zB h) <;> (try (exfalso; first | exact h | omega))) | (refine zfc Tryz.results85 ?_; (try dsimp only)))
    rw [hev, if_pos h]
    exact ⟨m', e', hS2, hF1.trans hF2, hO2.from (by rw [next_push]; omega)⟩
  · rintro x H2 tr ⟨m', e', hS2, hF2, hO2⟩
    repeat' (first | refine zka ?_ | refine zkb ?_ | (apply RKp.op; ((try simp (disch := (first | exact zQ | fail)) only [go_sem]); exact zL); rfl) | refine zkc ?_ | refine zz ?_ | refine zkd ?_ | refine zke ?_ | refine zkf ?_ | (refine RKg.split (fun h => ?_) (fun h => ?_) <;> (try rw [h]) <;> (replace h := zB h) <;> (try (exfalso; first | exact h | omega))) | refine zbt ?_ | apply V.regK | refine zvd ?_ | refine zve ?_ | (refine zvf (fun h => ?_) (fun h => ?_) <;> (replace h := zB h) <;> (try (exfalso; first | exact h | omega))) | (refine zfc Tryz.results85 ?_; (try dsimp only)))
    rw [hev, if_neg (by omega), if_pos h]
    exact ⟨m', e', hS2, hF1.trans hF2, hO2.from (by rw [next_push]; omega)⟩
  · rintro x H2 tr ⟨rfl, hS2, hF2⟩
    repeat' (first | refine zka ?_ | refine zkb ?_ | (apply RKp.op; ((try simp (disch := (first | exact zQ | fail)) only [go_sem]); exact zL); rfl) | refine zkc ?_ | refine zz ?_ | refine zkd ?_ | refine zke ?_ | refine zkf ?_ | (refine RKg.split (fun h => ?_) (fun h => ?_) <;> (try rw [h]) <;> (replace h := zB h) <;> (try (exfalso; first | exact h | omega))) | refine zbt ?_ | apply V.regK | refine zvd ?_ | refine zve ?_ | (refine zvf (fun h => ?_) (fun h => ?_) <;> (replace h := zB h) <;> (try (exfalso; first | exact h | omega))) | (refine zfc Tryz.results85 ?_; (try dsimp only)))
    rw [hev, if_neg (by omega), if_neg (by omega), if_pos h]
    exact ⟨m, e, hS2, hF1.trans hF2, OutS.nil _ _ _⟩
  · rw [hev, if_neg (by omega), if_neg (by omega), if_neg (by omega)]
    exact ⟨m, e, hS1, hF1, OutS.nil _ _ _⟩
end
end Go.Am
