
/- The program's screen: moves, clears. -/
import Derived.Test.YtoeemmlfcnokiaaAScr4
set_option linter.all false
set_option linter.deprecated false
namespace Go.Am
open Go.Proofs
set_option maxRecDepth 8000
set_option maxHeartbeats 4000000
abbrev evk (k r : Int) (A : AV) (t : ByteArray) : Blk := ⟨33, 4, 0, [[.v (.int .i64 k), .v (.int .i32 r), A, .v (.string t)]], none⟩
section
variable {ys : List (Nat × LRec)} {lo : Nat} {H : AHeap} {n m e : Nat} {s : Sc} {A : AV} {a : List Int}
theorem argI_hi {a : List Int} (h : ∀ x ∈ a, x ≤ 9999) (i : Nat) : argI a i 1 ≤ 9999 := by
  unfold argI
  split
  · omega
  · rename_i hne
    rcases Nat.lt_or_ge i a.length with hi | hi
    · exact h _ (getMem 0 hi)
    · exact absurd (by simp [List.getD_eq_getElem?_getD, List.getElem?_eq_none hi]) hne
theorem moves_run (hS : SP 73 lo H n m e s) (hg : ScG s) (hcw : s.col < s.w) (k r : Int) (t : ByteArray) (hA : SlH H 1 A (ints a)) (hl : a.length < 2 ^ 40) (ha : ∀ x ∈ a, 0 ≤ x ∧ x ≤ 9999) : CallE EA ys lo 60 [.op n 0 0 0, .agg [.v (.int .i64 k), .v (.int .i32 r), A, .v (.string t)]] H fun x H' => x = .tup [] ∧ SP 73 lo H' n m e (s.mov r a) ∧ Fr H H' n m m := by
  have ⟨nl, ml, nn, mn, ne, hb, hm⟩ := hS
  have w2 := hg.w2; have w3 := hg.w3; have c0 := hg.c0; have cw := hg.cw; have r0 := hg.r0; have rh := hg.rh; have h2 := hg.h2
  have p0 := ScG.argI_pos (fun x hx => (ha x hx).1) 0; have p1 := ScG.argI_pos (fun x hx => (ha x hx).1) 1
  have q0 := argI_hi (fun x hx => (ha x hx).2) 0; have q1 := argI_hi (fun x hx => (ha x hx).2) 1
  have hS1 := hS.ext ((Ext.refl H).push (evk k r A t))
  have hct := cells_SlH hA
  have hnu := fun ys G (x : Ext H G) (i : Int) => number_R (ys := ys) (lo := lo) (H := G) (hA.ext x) hl k r t i 1
  have key : ∀ R C : Int, s.mov r a = { s with row := R, col := C } → SP 73 lo ((H.set n ⟨73, 6, 0, [[.v (.int .i64 s.w), .v (.int .i64 s.h), .os m e 0 s.rows.length, .v (.int .i64 R), .v (.int .i64 C), .v (.int .i64 s.attr)]], none⟩).push (evk k r A t)) n m e (s.mov r a) := fun R C h => by
    rw [h]; exact (hS.turn { s with row := R, col := C } rfl).ext ((Ext.refl _).push _)
  refine WC.effE rfl ?_
  refine zvin Try.func60 Try.ntmps60 ?_
  repeat' (first
   | refine zka ?_
   | refine zkb ?_
   | (apply RKp.op; ((try simp (disch := (first | omega | exact zX | exact zO | fail)) only [hb, hm, nth_rowsA, rowsA_len, rowsA_set, hct, Int.toNat_zero, Int.toNat_one, go_sem, Nat.reduceDiv, Nat.reduceMod, Nat.reduceAdd, Nat.reduceSub, Nat.reduceEqDiff, Nat.reduceLeDiff, Nat.reduceLT, Nat.reduceMul, reduceIte, Nat.reducePow, Int.reduceEq]); exact zL); rfl)
   | (apply RKp.call; (apply within_run <;> (exact zD)); rfl)
   | (apply RKp.callR; (apply hnu <;> (exact zD)); rfl; intro tr htr)
   | refine zkc ?_
   | apply RKg.tt
   | apply RKg.ff
   | refine zkd ?_
   | refine zke ?_
   | refine zkf ?_
   | (refine RKg.split (fun h => ?_) (fun h => ?_) <;> (try rw [h]) <;> (replace h := zB h) <;> (try (exfalso; first | exact h | omega)))
   | apply RK.nil
   | apply V.sq
   | apply V.bl
   | apply V.sc
   | apply V.skip
   | apply V.label
   | apply V.ret
   | apply V.exit
   | apply SeqQ.normal
   | apply SeqQ.ret
   | apply SeqQ.exit
   | apply BlockQ.normal
   | apply BlockQ.ret
   | apply BlockQ.here
   | refine zbt ?_
   | apply LoopS.ret
   | apply LoopS.exit
   | apply LoopF.ret
   | apply LoopF.exit
   | apply V.regK
    | refine zva ?_
   | refine zvb ?_
   | refine zgc ?_
   | refine zvd ?_
   | refine zve ?_
   | (refine zvf (fun h => ?_) (fun h => ?_) <;> (replace h := zB h) <;> (try (exfalso; first | exact h | omega)))
    | (refine zfa Try.results60 ?_; (try dsimp only))
   | (refine zfb Try.results60 ?_; (try dsimp only)))
  all_goals
    refine ⟨rfl, key _ _ ?_, ((Fr.refl H n m).setn _).push _⟩
    unfold Sc.mov
    (repeat' split) <;> first
      | omega
      | (congr 1 <;> omega)
      | (have e1 : min (max s.row 0) (s.h - 1) = s.row := by omega
         have e2 : min (max s.col 0) (s.w - 1) = s.col := by omega
         rw [e1, e2])

theorem ScG.tab (hg : ScG s) {rs : List Rw} (hl : rs.length = s.rows.length) (hr : ∀ j, j < rs.length → RwG s.w (rs.getD j noRw)) : ScG { s with rows := rs } :=
  ⟨hg.w2, hg.w3, hg.h1, hg.h2, by show (rs.length : Int) = _; rw [hl]; exact hg.len, fun x hx => by
    obtain ⟨j, hj, rfl⟩ := List.mem_iff_getElem.1 hx
    have := hr j hj
    rw [List.getD_eq_getElem?_getD, List.getElem?_eq_getElem hj] at this
    exact this, hg.r0, hg.rh, hg.c0, hg.cw, hg.a0, hg.a1⟩
theorem rw_ext {l l' : List Rw} (h : l.length = l'.length) (he : ∀ j, j < l.length → l.getD j noRw = l'.getD j noRw) : l = l' := by
  apply List.ext_getElem h
  intro i h1 h2
  have := he i h1
  simpa [List.getD_eq_getElem?_getD, List.getElem?_eq_getElem h1, List.getElem?_eq_getElem h2] using this
theorem getD_rset (l : List Rw) (i j : Nat) (c : Rw) (h : j < l.length) : (l.set i c).getD j noRw = if i = j then c else l.getD j noRw := by
  rw [List.getD_eq_getElem?_getD, List.getElem?_set]
  split
  · rename_i e; subst e; simp [h]
  · rw [List.getD_eq_getElem?_getD]
theorem clr_at (s : Sc) (how : Int) (all : Bool) (j : Nat) (h : j < s.rows.length) : (s.clr how all).rows.getD j noRw = clr1 how all s.w s.row s.col j (s.rows.getD j noRw) := by
  simp [Sc.clr, List.getD_eq_getElem?_getD, h]
theorem clr_len (s : Sc) (how : Int) (all : Bool) : (s.clr how all).rows.length = s.rows.length := by simp [Sc.clr]

/-- What the rows are, i of them gone through. -/
def clrTo (s : Sc) (how : Int) (all : Bool) (i j : Nat) : Rw :=
  if (j : Int) = s.row ∨ j < i then clr1 how all s.w s.row s.col j (s.rows.getD j noRw) else s.rows.getD j noRw
theorem clears_run (hS : SP 73 lo H n m e s) (hg : ScG s) (hcw : s.col < s.w) (how : Int) (all : Bool) : CallE EA ys lo 58 [.op n 0 0 0, .v (.int .i64 how), .v (.bool all)] H fun x H' => x = .tup [] ∧ SP 73 lo H' n m e (s.clr how all) ∧ Fr H H' n m m := by
  have ⟨nl, ml, nn, mn, ne, hb, hm⟩ := hS
  have w2 := hg.w2; have w3 := hg.w3; have c0 := hg.c0; have cw := hg.cw; have r0 := hg.r0; have rh := hg.rh; have h2 := hg.h2; have hlen := hg.len
  refine WC.effE rfl ?_
  have her := fun ys a b (ha : 0 ≤ a ∧ a ≤ 300) (hbb : 0 ≤ b ∧ b ≤ 300) => erase_run (ys := ys) hS hg s.row.toNat hg.lt a b (by omega) (by omega)
  rw [show ((s.row.toNat : Nat) : Int) = s.row by omega] at her
  refine zvin Try.func58 Try.ntmps58 ?_
  repeat' (first
   | refine zka ?_
   | refine zkb ?_
   | (apply RKp.op; ((try simp (disch := (first | omega | exact zX | exact zO | fail)) only [hb, hm, nth_rowsA, rowsA_len, rowsA_set, go_sem, Nat.reduceDiv, Nat.reduceMod, Nat.reduceAdd, Nat.reduceSub, Nat.reduceEqDiff, Nat.reduceLeDiff, Nat.reduceLT, Nat.reduceMul, reduceIte, Nat.reducePow, Int.reduceEq]); exact zL); rfl)
   | (apply RKp.callO; (apply her <;> (exact zD)); rfl; intro tr)
   | refine zkc ?_
   | apply RKg.tt
   | apply RKg.ff
   | refine zkd ?_
   | refine zke ?_
   | refine zkf ?_
   | (refine RKg.split (fun h => ?_) (fun h => ?_) <;> (try rw [h]) <;> (replace h := zB h) <;> (try (exfalso; first | exact h | omega)))
   | apply RK.nil
   | apply V.sq
   | apply V.bl
   | apply V.sc
   | apply V.skip
   | apply V.label
   | apply V.ret
   | apply V.exit
   | apply SeqQ.normal
   | apply SeqQ.ret
   | apply SeqQ.exit
   | apply BlockQ.normal
   | apply BlockQ.ret
   | apply BlockQ.here
   | refine zbt ?_
   | apply LoopS.ret
   | apply LoopS.exit
   | apply LoopF.ret
   | apply LoopF.exit
   | apply V.regK
    | refine zva ?_
   | refine zvb ?_
   | refine zgc ?_
   | refine zvd ?_
   | refine zve ?_
   | (refine zvf (fun h => ?_) (fun h => ?_) <;> (replace h := zB h) <;> (try (exfalso; first | exact h | omega)))
    | (refine zfa Try.results58 ?_; (try dsimp only))
   | (refine zfb Try.results58 ?_; (try dsimp only)))
  ·
    apply V.lpS [48, 10, 49, 50, 51, 52, 53, 54, 55, 56, 57, 58, 59, 60, 61, 62, 63, 64, 65, 66, 67, 68, 69, 70, 71, 72, 73, 74, 75, 76, 77, 78, 79, 80] (fun k xs H2 => ∃ (i : Nat) (g : _) (rs : List Rw), xs = .v (.int .i64 i) :: g ∧ k = s.rows.length - i ∧ i ≤ s.rows.length ∧ rs.length = s.rows.length ∧ (∀ j, j < rs.length → rs.getD j noRw = clrTo s how all i j) ∧ SP 73 lo H2 n m e { s with rows := rs } ∧ Fr H H2 n m m) s.rows.length
    focus (intro xs; simp only [putMany, set2, Nat.reduceAdd, Nat.reduceDiv, Nat.reduceMod, nth_zero, nth_succ, List.set_cons_zero, List.set_cons_succ]; rfl)
    focus (first | rfl | simp only [readMany, nth_zero, nth_succ, Nat.reduceDiv, Nat.reduceMod])
    · refine ⟨0, _, _, rfl, rfl, Nat.zero_le _, List.length_set, ?_, hS.setm _ List.length_set, (Fr.refl H n m).setm _⟩
      intro j hj
      rw [List.length_set] at hj
      rw [getD_rset _ _ _ _ hj]
      unfold clrTo clr1
      first
      | (grind)
      | trace_state
    · rintro k xs H2 ⟨i, g, rs, rfl, rfl, hi, hrl, hrs, hS2, hF2⟩
      have hg2 : ScG ({ s with rows := rs } : Sc) := hg.tab hrl fun j hj => by
        rw [hrs j hj]; unfold clrTo; split
        · exact ScG.clr1G (hg.rw _ (getMem noRw (by omega))) _ _ _ _ _ _
        · exact hg.rw _ (getMem noRw (by omega))
      have hb2 := hS2.blk; have hm2 := hS2.rows; dsimp only at hb2 hm2
      have nn2 := hS2.nn; have mn2 := hS2.mn
      have her2 := fun ys (hl : i < rs.length) => erase_run (ys := ys) hS2 hg2 i hl 0 s.w (by omega) (by omega)
      repeat' (first
       | refine zka ?_
       | refine zkb ?_
       | (apply RKp.op; ((try simp (disch := (first | omega | exact zX | exact zO | fail)) only [hb2, go_sem, Nat.reduceDiv, Nat.reduceMod, Nat.reduceAdd, Nat.reduceSub, Nat.reduceEqDiff, Nat.reduceLeDiff, Nat.reduceLT, Nat.reduceMul, reduceIte, Nat.reducePow, Int.reduceEq]); exact zL); rfl)
       | (apply RKp.callO; (apply her2 <;> (exact zD)); rfl; intro tr)
       | refine zkc ?_
       | apply RKg.tt
       | apply RKg.ff
       | refine zkd ?_
       | refine zke ?_
       | refine zkf ?_
       | (refine RKg.split (fun h => ?_) (fun h => ?_) <;> (try rw [h]) <;> (replace h := zB h) <;> (try (exfalso; first | exact h | omega)))
       | apply RK.nil
       | apply V.sq
       | apply V.bl
       | apply V.sc
       | apply V.skip
       | apply V.label
       | apply V.ret
       | apply V.exit
       | apply SeqQ.normal
       | apply SeqQ.ret
       | apply SeqQ.exit
       | apply BlockQ.normal
       | apply BlockQ.ret
       | apply BlockQ.here
       | refine zbt ?_
       | apply LoopS.ret
       | apply LoopS.exit
       | apply LoopF.ret
       | apply LoopF.exit
       | apply V.regK
        | refine zva ?_
       | refine zvb ?_
       | refine zgc ?_
       | refine zvd ?_
       | refine zve ?_
       | (refine zvf (fun h => ?_) (fun h => ?_) <;> (replace h := zB h) <;> (try (exfalso; first | exact h | omega)))
        | (refine zfa Try.results58 ?_; (try dsimp only))
       | (refine zfb Try.results58 ?_; (try dsimp only)))
      all_goals first
        | (refine LoopS.again (s.rows.length - (i + 1)) (by rfl) (by omega) ⟨i + 1, _, _, rfl, rfl, by omega, (List.length_set).trans hrl, ?_, hS2.setm _ List.length_set, hF2.setm _⟩
           intro j hj
           rw [List.length_set] at hj
           rw [getD_rset _ _ _ _ hj, hrs j hj]
           by_cases e : i = j
           · subst e; rw [if_pos rfl, hrs i hj]; unfold clrTo clr1; grind
           · rw [if_neg e]; unfold clrTo; grind)
        | (refine LoopS.again (s.rows.length - (i + 1)) (by rfl) (by omega) ⟨i + 1, _, rs, rfl, rfl, by omega, hrl, ?_, hS2, hF2⟩
           intro j hj
           rw [hrs j hj]; unfold clrTo clr1; grind)
        | (refine ⟨rfl, ?_, hF2⟩
           have : rs = (s.clr how all).rows := rw_ext (by rw [clr_len]; exact hrl) fun j hj => by rw [hrs j hj, clr_at _ _ _ _ (by omega)]; unfold clrTo; rw [if_pos (.inr (by omega))]
           rw [this] at hS2; exact hS2)
        | trace_state
  ·
    apply V.lpS [48, 10, 49, 50, 51, 52, 53, 54, 55, 56, 57, 58, 59, 60, 61, 62, 63, 64, 65, 66, 67, 68, 69, 70, 71, 72, 73, 74, 75, 76, 77, 78, 79, 80] (fun k xs H2 => ∃ (i : Nat) (g : _) (rs : List Rw), xs = .v (.int .i64 i) :: g ∧ k = s.rows.length - i ∧ i ≤ s.rows.length ∧ rs.length = s.rows.length ∧ (∀ j, j < rs.length → rs.getD j noRw = clrTo s how all i j) ∧ SP 73 lo H2 n m e { s with rows := rs } ∧ Fr H H2 n m m) s.rows.length
    focus (intro xs; simp only [putMany, set2, Nat.reduceAdd, Nat.reduceDiv, Nat.reduceMod, nth_zero, nth_succ, List.set_cons_zero, List.set_cons_succ]; rfl)
    focus (first | rfl | simp only [readMany, nth_zero, nth_succ, Nat.reduceDiv, Nat.reduceMod])
    · refine ⟨0, _, _, rfl, rfl, Nat.zero_le _, List.length_set, ?_, hS.setm _ List.length_set, (Fr.refl H n m).setm _⟩
      intro j hj
      rw [List.length_set] at hj
      rw [getD_rset _ _ _ _ hj]
      unfold clrTo clr1
      first
      | (grind)
      | trace_state
    · rintro k xs H2 ⟨i, g, rs, rfl, rfl, hi, hrl, hrs, hS2, hF2⟩
      have hg2 : ScG ({ s with rows := rs } : Sc) := hg.tab hrl fun j hj => by
        rw [hrs j hj]; unfold clrTo; split
        · exact ScG.clr1G (hg.rw _ (getMem noRw (by omega))) _ _ _ _ _ _
        · exact hg.rw _ (getMem noRw (by omega))
      have hb2 := hS2.blk; have hm2 := hS2.rows; dsimp only at hb2 hm2
      have nn2 := hS2.nn; have mn2 := hS2.mn
      have her2 := fun ys (hl : i < rs.length) => erase_run (ys := ys) hS2 hg2 i hl 0 s.w (by omega) (by omega)
      repeat' (first
       | refine zka ?_
       | refine zkb ?_
       | (apply RKp.op; ((try simp (disch := (first | omega | exact zX | exact zO | fail)) only [hb2, go_sem, Nat.reduceDiv, Nat.reduceMod, Nat.reduceAdd, Nat.reduceSub, Nat.reduceEqDiff, Nat.reduceLeDiff, Nat.reduceLT, Nat.reduceMul, reduceIte, Nat.reducePow, Int.reduceEq]); exact zL); rfl)
       | (apply RKp.callO; (apply her2 <;> (exact zD)); rfl; intro tr)
       | refine zkc ?_
       | apply RKg.tt
       | apply RKg.ff
       | refine zkd ?_
       | refine zke ?_
       | refine zkf ?_
       | (refine RKg.split (fun h => ?_) (fun h => ?_) <;> (try rw [h]) <;> (replace h := zB h) <;> (try (exfalso; first | exact h | omega)))
       | apply RK.nil
       | apply V.sq
       | apply V.bl
       | apply V.sc
       | apply V.skip
       | apply V.label
       | apply V.ret
       | apply V.exit
       | apply SeqQ.normal
       | apply SeqQ.ret
       | apply SeqQ.exit
       | apply BlockQ.normal
       | apply BlockQ.ret
       | apply BlockQ.here
       | refine zbt ?_
       | apply LoopS.ret
       | apply LoopS.exit
       | apply LoopF.ret
       | apply LoopF.exit
       | apply V.regK
        | refine zva ?_
       | refine zvb ?_
       | refine zgc ?_
       | refine zvd ?_
       | refine zve ?_
       | (refine zvf (fun h => ?_) (fun h => ?_) <;> (replace h := zB h) <;> (try (exfalso; first | exact h | omega)))
        | (refine zfa Try.results58 ?_; (try dsimp only))
       | (refine zfb Try.results58 ?_; (try dsimp only)))
      all_goals first
        | (refine LoopS.again (s.rows.length - (i + 1)) (by rfl) (by omega) ⟨i + 1, _, _, rfl, rfl, by omega, (List.length_set).trans hrl, ?_, hS2.setm _ List.length_set, hF2.setm _⟩
           intro j hj
           rw [List.length_set] at hj
           rw [getD_rset _ _ _ _ hj, hrs j hj]
           by_cases e : i = j
           · subst e; rw [if_pos rfl, hrs i hj]; unfold clrTo clr1; grind
           · rw [if_neg e]; unfold clrTo; grind)
        | (refine LoopS.again (s.rows.length - (i + 1)) (by rfl) (by omega) ⟨i + 1, _, rs, rfl, rfl, by omega, hrl, ?_, hS2, hF2⟩
           intro j hj
           rw [hrs j hj]; unfold clrTo clr1; grind)
        | (refine ⟨rfl, ?_, hF2⟩
           have : rs = (s.clr how all).rows := rw_ext (by rw [clr_len]; exact hrl) fun j hj => by rw [hrs j hj, clr_at _ _ _ _ (by omega)]; unfold clrTo; rw [if_pos (.inr (by omega))]
           rw [this] at hS2; exact hS2)
        | trace_state
  ·
    apply V.lpS [48, 10, 49, 50, 51, 52, 53, 54, 55, 56, 57, 58, 59, 60, 61, 62, 63, 64, 65, 66, 67, 68, 69, 70, 71, 72, 73, 74, 75, 76, 77, 78, 79, 80] (fun k xs H2 => ∃ (i : Nat) (g : _) (rs : List Rw), xs = .v (.int .i64 i) :: g ∧ k = s.rows.length - i ∧ i ≤ s.rows.length ∧ rs.length = s.rows.length ∧ (∀ j, j < rs.length → rs.getD j noRw = clrTo s how all i j) ∧ SP 73 lo H2 n m e { s with rows := rs } ∧ Fr H H2 n m m) s.rows.length
    focus (intro xs; simp only [putMany, set2, Nat.reduceAdd, Nat.reduceDiv, Nat.reduceMod, nth_zero, nth_succ, List.set_cons_zero, List.set_cons_succ]; rfl)
    focus (first | rfl | simp only [readMany, nth_zero, nth_succ, Nat.reduceDiv, Nat.reduceMod])
    · refine ⟨0, _, _, rfl, rfl, Nat.zero_le _, List.length_set, ?_, hS.setm _ List.length_set, (Fr.refl H n m).setm _⟩
      intro j hj
      rw [List.length_set] at hj
      rw [getD_rset _ _ _ _ hj]
      unfold clrTo clr1
      first
      | (grind)
      | trace_state
    · rintro k xs H2 ⟨i, g, rs, rfl, rfl, hi, hrl, hrs, hS2, hF2⟩
      have hg2 : ScG ({ s with rows := rs } : Sc) := hg.tab hrl fun j hj => by
        rw [hrs j hj]; unfold clrTo; split
        · exact ScG.clr1G (hg.rw _ (getMem noRw (by omega))) _ _ _ _ _ _
        · exact hg.rw _ (getMem noRw (by omega))
      have hb2 := hS2.blk; have hm2 := hS2.rows; dsimp only at hb2 hm2
      have nn2 := hS2.nn; have mn2 := hS2.mn
      have her2 := fun ys (hl : i < rs.length) => erase_run (ys := ys) hS2 hg2 i hl 0 s.w (by omega) (by omega)
      repeat' (first
       | refine zka ?_
       | refine zkb ?_
       | (apply RKp.op; ((try simp (disch := (first | omega | exact zX | exact zO | fail)) only [hb2, go_sem, Nat.reduceDiv, Nat.reduceMod, Nat.reduceAdd, Nat.reduceSub, Nat.reduceEqDiff, Nat.reduceLeDiff, Nat.reduceLT, Nat.reduceMul, reduceIte, Nat.reducePow, Int.reduceEq]); exact zL); rfl)
       | (apply RKp.callO; (apply her2 <;> (exact zD)); rfl; intro tr)
       | refine zkc ?_
       | apply RKg.tt
       | apply RKg.ff
       | refine zkd ?_
       | refine zke ?_
       | refine zkf ?_
       | (refine RKg.split (fun h => ?_) (fun h => ?_) <;> (try rw [h]) <;> (replace h := zB h) <;> (try (exfalso; first | exact h | omega)))
       | apply RK.nil
       | apply V.sq
       | apply V.bl
       | apply V.sc
       | apply V.skip
       | apply V.label
       | apply V.ret
       | apply V.exit
       | apply SeqQ.normal
       | apply SeqQ.ret
       | apply SeqQ.exit
       | apply BlockQ.normal
       | apply BlockQ.ret
       | apply BlockQ.here
       | refine zbt ?_
       | apply LoopS.ret
       | apply LoopS.exit
       | apply LoopF.ret
       | apply LoopF.exit
       | apply V.regK
        | refine zva ?_
       | refine zvb ?_
       | refine zgc ?_
       | refine zvd ?_
       | refine zve ?_
       | (refine zvf (fun h => ?_) (fun h => ?_) <;> (replace h := zB h) <;> (try (exfalso; first | exact h | omega)))
        | (refine zfa Try.results58 ?_; (try dsimp only))
       | (refine zfb Try.results58 ?_; (try dsimp only)))
      all_goals first
        | (refine LoopS.again (s.rows.length - (i + 1)) (by rfl) (by omega) ⟨i + 1, _, _, rfl, rfl, by omega, (List.length_set).trans hrl, ?_, hS2.setm _ List.length_set, hF2.setm _⟩
           intro j hj
           rw [List.length_set] at hj
           rw [getD_rset _ _ _ _ hj, hrs j hj]
           by_cases e : i = j
           · subst e; rw [if_pos rfl, hrs i hj]; unfold clrTo clr1; grind
           · rw [if_neg e]; unfold clrTo; grind)
        | (refine LoopS.again (s.rows.length - (i + 1)) (by rfl) (by omega) ⟨i + 1, _, rs, rfl, rfl, by omega, hrl, ?_, hS2, hF2⟩
           intro j hj
           rw [hrs j hj]; unfold clrTo clr1; grind)
        | (refine ⟨rfl, ?_, hF2⟩
           have : rs = (s.clr how all).rows := rw_ext (by rw [clr_len]; exact hrl) fun j hj => by rw [hrs j hj, clr_at _ _ _ _ (by omega)]; unfold clrTo; rw [if_pos (.inr (by omega))]
           rw [this] at hS2; exact hS2)
        | trace_state
  · have e : s.clr how all = s := by
      have h1 : (s.clr how all).rows = s.rows := rw_ext (clr_len s how all) fun j hj => by
        rw [clr_len] at hj
        rw [clr_at _ _ _ _ hj]; unfold clr1; grind
      unfold Sc.clr at *
      dsimp only at h1
      rw [h1]
    rw [e]
    exact ⟨rfl, hS, Fr.refl _ _ _⟩
end
end Go.Am
