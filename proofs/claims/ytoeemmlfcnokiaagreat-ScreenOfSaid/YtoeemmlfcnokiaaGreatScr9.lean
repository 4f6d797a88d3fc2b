/- The reference's screen: csi, Do. -/
import Derived.Test.YtoeemmlfcnokiaaGreatScr8
set_option linter.all false
set_option linter.deprecated false
namespace Go.Am
open Go.Proofs
set_option maxRecDepth 8000
set_option maxHeartbeats 4000000
section
variable {ys : List (Nat × LRec)} {lo : Nat} {H : AHeap} {n m e : Nat} {s : Sc} {A : AV} {a : List Int}
theorem rowEra_idem {w : Int} {r : Rw} (h : RwG w r) (w2 : 2 ≤ w) : rowEra (rowEra r 0 w) 0 w = rowEra r 0 w := by
  have hl := h.2.2
  have h1 : eraOk r.1 0 w := ⟨h.1, by omega, by omega, by omega⟩
  have hl2 : ((erL r.1 0 w).length : Int) = w := by rw [erL_len]; exact hl
  have h2 : eraOk (erL r.1 0 w) 0 w := ⟨erL_ok h.1, by omega, by omega, by omega⟩
  unfold rowEra
  dsimp only
  congr 1
  · have e1 : erL r.1 0 w = eraL r.1 (0 : Int).toNat w.toNat := by unfold erL; rw [if_pos h1]
    have e2 : erL (erL r.1 0 w) 0 w = eraL (erL r.1 0 w) (0 : Int).toNat w.toNat := by rw [erL, if_pos h2]
    rw [e2, e1]
    exact era_idem (by omega)
  · have e1 : ∀ b, erW (erL r.1 0 w) b 0 w = eraW (erL r.1 0 w) b 0 w := fun b => by unfold erW; rw [if_pos h2]
    have e2 : erW r.1 r.2 0 w = eraW r.1 r.2 0 w := by unfold erW; rw [if_pos h1]
    rw [e1, e2]
    unfold eraW
    rw [erL_len]
    cases r.2 <;> simp
/-- What the rows are, i of them gone through by the reference. -/
def rTo (s : Sc) (how : Int) (i j : Nat) : Rw := if j < i ∧ (how = 2 ∨ (how = 0 ∧ s.row < j) ∨ (how = 1 ∧ (j : Int) < s.row)) then rowEra (s.rows.getD j noRw) 0 s.w else s.rows.getD j noRw
/-- What a CSI does, the cursor being in a cell. -/
def Sc.csi1 (s : Sc) (r : Int) (a : List Int) : Sc :=
  if r = 74 then s.clr (argI a 0 0) true else if r = 75 then s.clr (argI a 0 0) false else if r = 109 then { s with attr := a.foldl (fun _ n => n % 256) 0 } else s.mov r a
theorem rcsi_m (hS : SP 110 lo H n m e s) (hg : ScG s) (hcw : s.col < s.w) (r : Int) (hA : SlH H 1 A (ints a)) (hA0 : ∀ k, nameOf A k → k ≠ n ∧ k ≠ m) (hl : a.length < 2 ^ 40) (ha : ∀ x ∈ a, 0 ≤ x ∧ x ≤ 9999) (h74 : r ≠ 74) (h75 : r ≠ 75) (hi : isCsi r) : CallE EZ ys lo 81 [.op n 0 0 0, .v (.int .i32 r), A] H fun x H' => x = .tup [] ∧ SP 110 lo H' n m e (s.csi1 r a) ∧ Fr H H' n m m := by
  have ⟨nl, ml, nn, mn, ne, hb, hm⟩ := hS
  have w2 := hg.w2; have w3 := hg.w3; have c0 := hg.c0; have cw := hg.cw; have r0 := hg.r0; have rh := hg.rh; have h2 := hg.h2
  have p0 := ScG.argI_pos (fun x hx => (ha x hx).1) 0; have p1 := ScG.argI_pos (fun x hx => (ha x hx).1) 1
  have q0 := argI_hi (fun x hx => (ha x hx).2) 0; have q1 := argI_hi (fun x hx => (ha x hx).2) 1
  have har := fun ys (i d : Int) => arg_R (ys := ys) (lo := lo) hA hl i d
  refine WC.effE rfl ?_
  have hcs : s.csi1 r a = if r = 109 then { s with attr := a.foldl (fun _ n => n % 256) 0 } else s.mov r a := by unfold Sc.csi1; rw [if_neg h74, if_neg h75]
  rw [hcs]
  by_cases h3 : r = 109
  · subst h3
    rw [if_pos rfl]
    refine zvin Tryz.func81 Tryz.ntmps81 ?_
    repeat' (first
     | refine zka ?_
     | refine zkb ?_
     | (apply RKp.op; ((try simp (disch := (first | omega | exact zX | exact zO | fail)) only [hb, hm, nth_rowsA, rowsA_len, rowsA_set, List.length_set, len_intX lo hA, Int.toNat_zero, go_sem, Nat.reduceDiv, Nat.reduceMod, Nat.reduceAdd, Nat.reduceSub, Nat.reduceEqDiff, Nat.reduceLeDiff, Nat.reduceLT, Nat.reduceMul, reduceIte, Nat.reducePow, Int.reduceEq]); exact zL); rfl)
     | (apply RKp.callR; (apply har <;> (exact zD)); rfl; intro tr htr)
     | refine zkc ?_
     | apply RKg.tt
     | apply RKg.ff
     | refine zkd ?_
     | refine zke ?_
     | refine zkf ?_
     | (refine RKg.split (fun h => ?_) (fun h => ?_) <;> (try rw [h]) <;> (replace h := zB h) <;> (try (exfalso; first | exact h | omega)))
     | apply RK.nil
     | apply V.sq
     | apply V.bl
     | apply V.sc
     | apply V.skip
     | apply V.label
     | apply V.ret
     | apply V.exit
     | apply SeqQ.normal
     | apply SeqQ.ret
     | apply SeqQ.exit
     | apply BlockQ.normal
     | apply BlockQ.ret
     | apply BlockQ.here
     | refine zbt ?_
     | apply LoopS.ret
     | apply LoopS.exit
     | apply LoopF.ret
     | apply LoopF.exit
     | apply V.regK
      | refine zva ?_
     | refine zvb ?_
     | refine zgc ?_
     | refine zvd ?_
     | refine zve ?_
     | (refine zvf (fun h => ?_) (fun h => ?_) <;> (replace h := zB h) <;> (try (exfalso; first | exact h | omega)))
      | (refine zfa Tryz.results81 ?_; (try dsimp only))
     | (refine zfb Tryz.results81 ?_; (try dsimp only)))
    · have e0 : a = [] := List.eq_nil_of_length_eq_zero (by omega)
      subst e0
      have hA2 := fun b => ((Fr.refl H n m).setn b).ext hA hA0
      apply V.un
      repeat' (first
       | refine zka ?_
       | refine zkb ?_
       | (apply RKp.op; ((try simp (disch := (first | omega | exact zX | exact zO | fail)) only [hb, hm, nth_rowsA, rowsA_len, rowsA_set, List.length_set, fun b => len_intX lo (hA2 b), go_sem, Nat.reduceDiv, Nat.reduceMod, Nat.reduceAdd, Nat.reduceSub, Nat.reduceEqDiff, Nat.reduceLeDiff, Nat.reduceLT, Nat.reduceMul, reduceIte, Nat.reducePow, Int.reduceEq]); exact zL); rfl)
       | refine zkc ?_
       | apply RKg.tt
       | apply RKg.ff
       | refine zkd ?_
       | refine zke ?_
       | refine zkf ?_
       | (refine RKg.split (fun h => ?_) (fun h => ?_) <;> (try rw [h]) <;> (replace h := zB h) <;> (try (exfalso; first | exact h | omega)))
       | apply RK.nil
       | apply V.sq
       | apply V.bl
       | apply V.sc
       | apply V.skip
       | apply V.label
       | apply V.ret
       | apply V.exit
       | apply SeqQ.normal
       | apply SeqQ.ret
       | apply SeqQ.exit
       | apply BlockQ.normal
       | apply BlockQ.ret
       | apply BlockQ.here
       | refine zbt ?_
       | apply LoopS.ret
       | apply LoopS.exit
       | apply LoopF.ret
       | apply LoopF.exit
       | apply V.regK
        | refine zva ?_
       | refine zvb ?_
       | refine zgc ?_
       | refine zvd ?_
       | refine zve ?_
       | (refine zvf (fun h => ?_) (fun h => ?_) <;> (replace h := zB h) <;> (try (exfalso; first | exact h | omega)))
        | (refine zfa Tryz.results81 ?_; (try dsimp only))
       | (refine zfb Tryz.results81 ?_; (try dsimp only)))
      exact ⟨rfl, hS.turn { s with attr := 0 } rfl, (Fr.refl H n m).setn _⟩
    · have e0 : a ≠ [] := fun h' => h (by rw [h']; rfl)
      rw [fold_any a 0 s.attr e0]
      apply V.lpS [9, 209, 210, 211, 212, 213, 214, 215, 216, 217, 218, 219, 220, 221, 222] (fun k xs H2 => ∃ (i : Nat) (g : _), xs = .v (.int .i64 i) :: g ∧ k = a.length - i ∧ i ≤ a.length ∧ SP 110 lo H2 n m e { s with attr := (a.take i).foldl (fun _ n => n % 256) s.attr } ∧ Fr H H2 n m m) a.length
      focus (intro xs; simp only [putMany, set2, Nat.reduceAdd, Nat.reduceDiv, Nat.reduceMod, nth_zero, nth_succ, List.set_cons_zero, List.set_cons_succ]; rfl)
      focus (first | rfl | simp only [readMany, nth_zero, nth_succ, Nat.reduceDiv, Nat.reduceMod])
      · exact ⟨0, _, rfl, rfl, Nat.zero_le _, hS, Fr.refl H n m⟩
      · rintro k xs H2 ⟨i, g, rfl, rfl, hi, hS2, hF2⟩
        have hb2 := hS2.blk; dsimp only at hb2
        have nn2 := hS2.nn
        have hA2 := hF2.ext hA hA0
        have hx : 0 ≤ a.getD i 0 := argD_pos (fun x hx => (ha x hx).1) i
        have e0 : (a.getD i 0).tmod 256 = a.getD i 0 % 256 := Int.tmod_eq_emod_of_nonneg hx
        repeat' (first
         | refine zka ?_
         | refine zkb ?_
         | (apply RKp.op; ((try simp (disch := (first | omega | exact zX | exact zO | fail)) only [hb2, len_intX lo hA2, ix_intX lo hA2, ld_intX lo hA2, e0, Int.toNat_natCast, go_sem, Nat.reduceDiv, Nat.reduceMod, Nat.reduceAdd, Nat.reduceSub, Nat.reduceEqDiff, Nat.reduceLeDiff, Nat.reduceLT, Nat.reduceMul, reduceIte, Nat.reducePow, Int.reduceEq]); exact zL); rfl)
         | refine zkc ?_
         | apply RKg.tt
         | apply RKg.ff
         | refine zkd ?_
         | refine zke ?_
         | refine zkf ?_
         | (refine RKg.split (fun h => ?_) (fun h => ?_) <;> (try rw [h]) <;> (replace h := zB h) <;> (try (exfalso; first | exact h | omega)))
         | apply RK.nil
         | apply V.sq
         | apply V.bl
         | apply V.sc
         | apply V.skip
         | apply V.label
         | apply V.ret
         | apply V.exit
         | apply SeqQ.normal
         | apply SeqQ.ret
         | apply SeqQ.exit
         | apply BlockQ.normal
         | apply BlockQ.ret
         | apply BlockQ.here
         | refine zbt ?_
         | apply LoopS.ret
         | apply LoopS.exit
         | apply LoopF.ret
         | apply LoopF.exit
         | apply V.regK
          | refine zva ?_
         | refine zvb ?_
         | refine zgc ?_
         | refine zvd ?_
         | refine zve ?_
         | (refine zvf (fun h => ?_) (fun h => ?_) <;> (replace h := zB h) <;> (try (exfalso; first | exact h | omega)))
          | (refine zfa Tryz.results81 ?_; (try dsimp only))
         | (refine zfb Tryz.results81 ?_; (try dsimp only)))
        · refine LoopS.again (a.length - (i + 1)) (by rfl) (by omega) ⟨i + 1, _, rfl, rfl, by omega, ?_, hF2.setn _⟩
          have := hS2.turn { s with attr := (a.take (i + 1)).foldl (fun _ n => n % 256) s.attr } rfl
          rw [show ({ s with attr := (a.take (i + 1)).foldl (fun _ n => n % 256) s.attr } : Sc).attr = a.getD i 0 % 256 from fold_take a i _ (by omega)] at this
          exact this
        · refine ⟨rfl, ?_, hF2⟩
          have ei : i = a.length := by omega
          subst ei
          rw [List.take_length] at hS2
          exact hS2
  · rw [if_neg h3]
    unfold isCsi at hi
    have key : ∀ R C : Int, s.mov r a = { s with row := R, col := C } → SP 110 lo (H.set n ⟨110, 6, 0, [[.v (.int .i64 s.w), .v (.int .i64 s.h), .os m e 0 s.rows.length, .v (.int .i64 R), .v (.int .i64 C), .v (.int .i64 s.attr)]], none⟩) n m e (s.mov r a) := fun R C h => by
      rw [h]; exact hS.turn { s with row := R, col := C } rfl
    refine zvin Tryz.func81 Tryz.ntmps81 ?_
    repeat' (first
     | refine zka ?_
     | refine zkb ?_
     | (apply RKp.op; ((try simp (disch := (first | omega | exact zX | exact zO | fail)) only [hb, hm, nth_rowsA, rowsA_len, rowsA_set, List.length_set, Int.toNat_zero, Int.toNat_one, go_sem, Nat.reduceDiv, Nat.reduceMod, Nat.reduceAdd, Nat.reduceSub, Nat.reduceEqDiff, Nat.reduceLeDiff, Nat.reduceLT, Nat.reduceMul, reduceIte, Nat.reducePow, Int.reduceEq]); exact zL); rfl)
     | (apply RKp.callR; (apply har <;> (exact zD)); rfl; intro tr htr)
     | refine zkc ?_
     | apply RKg.tt
     | apply RKg.ff
     | refine zkd ?_
     | refine zke ?_
     | refine zkf ?_
     | (refine RKg.split (fun h => ?_) (fun h => ?_) <;> (try rw [h]) <;> (replace h := zB h) <;> (try (exfalso; first | exact h | omega)))
     | apply RK.nil
     | apply V.sq
     | apply V.bl
     | apply V.sc
     | apply V.skip
     | apply V.label
     | apply V.ret
     | apply V.exit
     | apply SeqQ.normal
     | apply SeqQ.ret
     | apply SeqQ.exit
     | apply BlockQ.normal
     | apply BlockQ.ret
     | apply BlockQ.here
     | refine zbt ?_
     | apply LoopS.ret
     | apply LoopS.exit
     | apply LoopF.ret
     | apply LoopF.exit
     | apply V.regK
      | refine zva ?_
     | refine zvb ?_
     | refine zgc ?_
     | refine zvd ?_
     | refine zve ?_
     | (refine zvf (fun h => ?_) (fun h => ?_) <;> (replace h := zB h) <;> (try (exfalso; first | exact h | omega)))
      | (refine zfa Tryz.results81 ?_; (try dsimp only))
     | (refine zfb Tryz.results81 ?_; (try dsimp only)))
    all_goals first
      | (exfalso; omega)
      | (refine ⟨rfl, key _ _ ?_, (Fr.refl H n m).setn _⟩
         unfold Sc.mov
         (repeat' split) <;> first
           | omega
           | (congr 1 <;> omega))
      | trace_state
theorem rcsi_jk (hS : SP 110 lo H n m e s) (hg : ScG s) (hcw : s.col < s.w) (r : Int) (hA : SlH H 1 A (ints a)) (hA0 : ∀ k, nameOf A k → k ≠ n ∧ k ≠ m) (hl : a.length < 2 ^ 40) (ha : ∀ x ∈ a, 0 ≤ x ∧ x ≤ 9999) (h74 : r = 74 ∨ r = 75) : CallE EZ ys lo 81 [.op n 0 0 0, .v (.int .i32 r), A] H fun x H' => x = .tup [] ∧ SP 110 lo H' n m e (s.csi1 r a) ∧ Fr H H' n m m := by
  have ⟨nl, ml, nn, mn, ne, hb, hm⟩ := hS
  have w2 := hg.w2; have w3 := hg.w3; have c0 := hg.c0; have cw := hg.cw; have r0 := hg.r0; have rh := hg.rh; have h2 := hg.h2; have hlen := hg.len
  have har := fun ys (i d : Int) => arg_R (ys := ys) (lo := lo) hA hl i d
  have hcs : s.csi1 r a = s.clr (argI a 0 0) (decide (r = 74)) := by
    unfold Sc.csi1
    rcases h74 with h | h
    · subst h; rfl
    · subst h; rfl
  rw [hcs]
  refine WC.effE rfl ?_
  have hid := rowEra_idem hg.at_ w2
  unfold Sc.cur at hid
  have hrt : ((s.row.toNat : Nat) : Int) = s.row := by omega
  rcases h74 with h | h
  · subst h
    refine zvin Tryz.func81 Tryz.ntmps81 ?_
    repeat' (first
     | refine zka ?_
     | refine zkb ?_
     | (apply RKp.op; ((try simp (disch := (first | omega | exact zX | exact zO | fail)) only [hb, hm, nth_rowsA, rowsA_len, rowsA_set, List.length_set, Int.toNat_zero, go_sem, Nat.reduceDiv, Nat.reduceMod, Nat.reduceAdd, Nat.reduceSub, Nat.reduceEqDiff, Nat.reduceLeDiff, Nat.reduceLT, Nat.reduceMul, reduceIte, Nat.reducePow, Int.reduceEq]); exact zL); rfl)
     | (apply RKp.callR; (apply har <;> (exact zD)); rfl; intro tr htr)
     | refine zkc ?_
     | apply RKg.tt
     | apply RKg.ff
     | refine zkd ?_
     | refine zke ?_
     | refine zkf ?_
     | (refine RKg.split (fun h => ?_) (fun h => ?_) <;> (try rw [h]) <;> (replace h := zB h) <;> (try (exfalso; first | exact h | omega)))
     | apply RK.nil
     | apply V.sq
     | apply V.bl
     | apply V.sc
     | apply V.skip
     | apply V.label
     | apply V.ret
     | apply V.exit
     | apply SeqQ.normal
     | apply SeqQ.ret
     | apply SeqQ.exit
     | apply BlockQ.normal
     | apply BlockQ.ret
     | apply BlockQ.here
     | refine zbt ?_
     | apply LoopS.ret
     | apply LoopS.exit
     | apply LoopF.ret
     | apply LoopF.exit
     | apply V.regK
      | refine zva ?_
     | refine zvb ?_
     | refine zgc ?_
     | refine zvd ?_
     | refine zve ?_
     | (refine zvf (fun h => ?_) (fun h => ?_) <;> (replace h := zB h) <;> (try (exfalso; first | exact h | omega)))
      | (refine zfa Tryz.results81 ?_; (try dsimp only))
     | (refine zfb Tryz.results81 ?_; (try dsimp only)))
    generalize argI a 0 0 = how at *
    rw [show decide ((74 : Int) = 74) = true from rfl]
    apply V.lpS [8, 107, 108, 109, 110, 111, 112, 113, 114, 115, 116, 117, 118, 119, 120, 121, 122, 123, 124, 125, 126, 127, 128, 129, 130, 131, 132, 133, 134, 135, 136, 137, 138, 139, 140, 141, 142, 143, 144, 145, 146, 147, 148, 149, 150, 151, 152, 153] (fun k xs H2 => ∃ (i : Nat) (g : _) (rs : List Rw), xs = .v (.int .i64 i) :: g ∧ k = s.rows.length - i ∧ i ≤ s.rows.length ∧ rs.length = s.rows.length ∧ (∀ j, j < rs.length → rs.getD j noRw = rTo s how i j) ∧ SP 110 lo H2 n m e { s with rows := rs } ∧ Fr H H2 n m m) s.rows.length
    focus (intro xs; simp only [putMany, set2, Nat.reduceAdd, Nat.reduceDiv, Nat.reduceMod, nth_zero, nth_succ, List.set_cons_zero, List.set_cons_succ]; rfl)
    focus (first | rfl | simp only [readMany, nth_zero, nth_succ, Nat.reduceDiv, Nat.reduceMod])
    · exact ⟨0, _, s.rows, rfl, rfl, Nat.zero_le _, rfl, fun j hj => by unfold rTo; rw [if_neg (by omega)], hS, Fr.refl H n m⟩
    · rintro k xs H2 ⟨i, g, rs, rfl, rfl, hi, hrl, hrs, hS2, hF2⟩
      have hg2 : ScG ({ s with rows := rs } : Sc) := hg.tab hrl fun j hj => by
        rw [hrs j hj]; unfold rTo; split
        · exact (hg.rw _ (getMem noRw (by omega))).era _ _
        · exact hg.rw _ (getMem noRw (by omega))
      have hb2 := hS2.blk; have hm2 := hS2.rows; dsimp only at hb2 hm2
      have nn2 := hS2.nn; have mn2 := hS2.mn
      have her2 := fun ys (hl : i < rs.length) => wipe_run (ys := ys) hS2 hg2 i hl 0 s.w (by omega) (by omega)
      have her3 := fun ys a b (h0 : 0 ≤ a ∧ a ≤ 300) (h1 : 0 ≤ b ∧ b ≤ 300) => wipe_run (ys := ys) hS2 hg2 s.row.toNat (show s.row.toNat < rs.length by omega) a b (by omega) (by omega)
      rw [hrt] at her3
      have hrr := hrs s.row.toNat (by omega)
      repeat' (first
       | refine zka ?_
       | refine zkb ?_
       | (apply RKp.op; ((try simp (disch := (first | omega | exact zX | exact zO | fail)) only [hb2, go_sem, Nat.reduceDiv, Nat.reduceMod, Nat.reduceAdd, Nat.reduceSub, Nat.reduceEqDiff, Nat.reduceLeDiff, Nat.reduceLT, Nat.reduceMul, reduceIte, Nat.reducePow, Int.reduceEq]); exact zL); rfl)
       | (apply RKp.callO; ((first | apply her2 | apply her3) <;> (exact zD)); rfl; intro tr)
       | refine zkc ?_
       | apply RKg.tt
       | apply RKg.ff
       | refine zkd ?_
       | refine zke ?_
       | refine zkf ?_
       | (refine RKg.split (fun h => ?_) (fun h => ?_) <;> (try rw [h]) <;> (replace h := zB h) <;> (try (exfalso; first | exact h | omega)))
       | apply RK.nil
       | apply V.sq
       | apply V.bl
       | apply V.sc
       | apply V.skip
       | apply V.label
       | apply V.ret
       | apply V.exit
       | apply SeqQ.normal
       | apply SeqQ.ret
       | apply SeqQ.exit
       | apply BlockQ.normal
       | apply BlockQ.ret
       | apply BlockQ.here
       | refine zbt ?_
       | apply LoopS.ret
       | apply LoopS.exit
       | apply LoopF.ret
       | apply LoopF.exit
       | apply V.regK
        | refine zva ?_
       | refine zvb ?_
       | refine zgc ?_
       | refine zvd ?_
       | refine zve ?_
       | (refine zvf (fun h => ?_) (fun h => ?_) <;> (replace h := zB h) <;> (try (exfalso; first | exact h | omega)))
        | (refine zfa Tryz.results81 ?_; (try dsimp only))
       | (refine zfb Tryz.results81 ?_; (try dsimp only)))
      all_goals first
        | (refine LoopS.again (s.rows.length - (i + 1)) (by rfl) (by omega) ⟨i + 1, _, _, rfl, rfl, by omega, (List.length_set).trans hrl, ?_, hS2.setm _ List.length_set, hF2.setm _⟩
           intro j hj
           rw [List.length_set] at hj
           rw [getD_rset _ _ _ _ hj, hrs j hj]
           by_cases e : i = j
           · subst e; rw [if_pos rfl, hrs i hj]; unfold rTo; grind
           · rw [if_neg e]; unfold rTo; grind)
        | (refine LoopS.again (s.rows.length - (i + 1)) (by rfl) (by omega) ⟨i + 1, _, rs, rfl, rfl, by omega, hrl, ?_, hS2, hF2⟩
           intro j hj
           rw [hrs j hj]; unfold rTo; grind)
        | (refine ⟨rfl, ?_, hF2.setm _⟩
           have hq := hS2.setm (rs.set s.row.toNat (rowEra (rs.getD s.row.toNat noRw) (if how = 0 then s.col else 0) (if how = 1 then s.col + 1 else s.w))) List.length_set
           have he : rs.set s.row.toNat (rowEra (rs.getD s.row.toNat noRw) (if how = 0 then s.col else 0) (if how = 1 then s.col + 1 else s.w)) = (s.clr how true).rows := rw_ext (by rw [clr_len, List.length_set]; exact hrl) fun j hj => by
             rw [List.length_set] at hj
             rw [getD_rset _ _ _ _ hj, hrr, hrs j hj, clr_at _ _ _ _ (by omega)]
             unfold rTo clr1
             grind
           dsimp only at hq
           rw [he] at hq
           first
             | (rw [if_pos (by assumption), if_neg (by omega)] at he; rw [he]; exact hq)
             | (rw [if_neg (by omega), if_pos (by assumption)] at he; rw [he]; exact hq)
             | (rw [if_neg (by omega), if_neg (by omega)] at he; rw [he]; exact hq))
        | (refine ⟨rfl, ?_, hF2⟩
           have he : rs = (s.clr how true).rows := rw_ext (by rw [clr_len]; exact hrl) fun j hj => by
             rw [hrs j hj, clr_at _ _ _ _ (by omega)]
             unfold rTo clr1
             grind
           rw [he] at hS2; exact hS2)
        | trace_state
  · subst h
    refine zvin Tryz.func81 Tryz.ntmps81 ?_
    repeat' (first
     | refine zka ?_
     | refine zkb ?_
     | (apply RKp.op; ((try simp (disch := (first | omega | exact zX | exact zO | fail)) only [hb, hm, nth_rowsA, rowsA_len, rowsA_set, List.length_set, Int.toNat_zero, go_sem, Nat.reduceDiv, Nat.reduceMod, Nat.reduceAdd, Nat.reduceSub, Nat.reduceEqDiff, Nat.reduceLeDiff, Nat.reduceLT, Nat.reduceMul, reduceIte, Nat.reducePow, Int.reduceEq]); exact zL); rfl)
     | (apply RKp.callR; (apply har <;> (exact zD)); rfl; intro tr htr)
     | refine zkc ?_
     | apply RKg.tt
     | apply RKg.ff
     | refine zkd ?_
     | refine zke ?_
     | refine zkf ?_
     | (refine RKg.split (fun h => ?_) (fun h => ?_) <;> (try rw [h]) <;> (replace h := zB h) <;> (try (exfalso; first | exact h | omega)))
     | apply RK.nil
     | apply V.sq
     | apply V.bl
     | apply V.sc
     | apply V.skip
     | apply V.label
     | apply V.ret
     | apply V.exit
     | apply SeqQ.normal
     | apply SeqQ.ret
     | apply SeqQ.exit
     | apply BlockQ.normal
     | apply BlockQ.ret
     | apply BlockQ.here
     | refine zbt ?_
     | apply LoopS.ret
     | apply LoopS.exit
     | apply LoopF.ret
     | apply LoopF.exit
     | apply V.regK
      | refine zva ?_
     | refine zvb ?_
     | refine zgc ?_
     | refine zvd ?_
     | refine zve ?_
     | (refine zvf (fun h => ?_) (fun h => ?_) <;> (replace h := zB h) <;> (try (exfalso; first | exact h | omega)))
      | (refine zfa Tryz.results81 ?_; (try dsimp only))
     | (refine zfb Tryz.results81 ?_; (try dsimp only)))
    generalize argI a 0 0 = how at *
    rw [show decide ((75 : Int) = 74) = false from rfl]
    have her3 := fun ys a b (h0 : 0 ≤ a ∧ a ≤ 300) (h1 : 0 ≤ b ∧ b ≤ 300) => wipe_run (ys := ys) hS hg s.row.toNat hg.lt a b (by omega) (by omega)
    rw [hrt] at her3
    apply V.un
    repeat' (first
     | refine zka ?_
     | refine zkb ?_
     | (apply RKp.op; ((try simp (disch := (first | omega | exact zX | exact zO | fail)) only [hb, hm, nth_rowsA, rowsA_len, rowsA_set, List.length_set, go_sem, Nat.reduceDiv, Nat.reduceMod, Nat.reduceAdd, Nat.reduceSub, Nat.reduceEqDiff, Nat.reduceLeDiff, Nat.reduceLT, Nat.reduceMul, reduceIte, Nat.reducePow, Int.reduceEq]); exact zL); rfl)
     | (apply RKp.callO; (apply her3 <;> (exact zD)); rfl; intro tr)
     | refine zkc ?_
     | apply RKg.tt
     | apply RKg.ff
     | refine zkd ?_
     | refine zke ?_
     | refine zkf ?_
     | (refine RKg.split (fun h => ?_) (fun h => ?_) <;> (try rw [h]) <;> (replace h := zB h) <;> (try (exfalso; first | exact h | omega)))
     | apply RK.nil
     | apply V.sq
     | apply V.bl
     | apply V.sc
     | apply V.skip
     | apply V.label
     | apply V.ret
     | apply V.exit
     | apply SeqQ.normal
     | apply SeqQ.ret
     | apply SeqQ.exit
     | apply BlockQ.normal
     | apply BlockQ.ret
     | apply BlockQ.here
     | refine zbt ?_
     | apply LoopS.ret
     | apply LoopS.exit
     | apply LoopF.ret
     | apply LoopF.exit
     | apply V.regK
      | refine zva ?_
     | refine zvb ?_
     | refine zgc ?_
     | refine zvd ?_
     | refine zve ?_
     | (refine zvf (fun h => ?_) (fun h => ?_) <;> (replace h := zB h) <;> (try (exfalso; first | exact h | omega)))
      | (refine zfa Tryz.results81 ?_; (try dsimp only))
     | (refine zfb Tryz.results81 ?_; (try dsimp only)))
    all_goals first
      | (refine ⟨rfl, ?_, (Fr.refl H n m).setm _⟩
         have hq := hS.setm (s.rows.set s.row.toNat (rowEra (s.rows.getD s.row.toNat noRw) (if how = 0 then s.col else 0) (if how = 1 then s.col + 1 else s.w))) List.length_set
         have he : s.rows.set s.row.toNat (rowEra (s.rows.getD s.row.toNat noRw) (if how = 0 then s.col else 0) (if how = 1 then s.col + 1 else s.w)) = (s.clr how false).rows := rw_ext (by rw [clr_len, List.length_set]) fun j hj => by
           rw [List.length_set] at hj
           rw [getD_rset _ _ _ _ hj, clr_at _ _ _ _ (by omega)]
           unfold clr1
           grind
         rw [he] at hq
         first
           | (rw [if_pos (by assumption), if_neg (by omega)] at he; rw [he]; exact hq)
           | (rw [if_neg (by omega), if_pos (by assumption)] at he; rw [he]; exact hq)
           | (rw [if_neg (by omega), if_neg (by omega)] at he; rw [he]; exact hq))
      | (refine ⟨rfl, ?_, Fr.refl _ _ _⟩
         have he : s.rows = (s.clr how false).rows := rw_ext (by rw [clr_len]) fun j hj => by
           rw [clr_at _ _ _ _ (by omega)]
           unfold clr1
           grind
         have e2 : s.clr how false = { s with rows := (s.clr how false).rows } := rfl
         rw [e2, ← he]; exact hS)
      | trace_state
theorem rcsi_run (hS : SP 110 lo H n m e s) (hg : ScG s) (hcw : s.col < s.w) (r : Int) (hA : SlH H 1 A (ints a)) (hA0 : ∀ k, nameOf A k → k ≠ n ∧ k ≠ m) (hl : a.length < 2 ^ 40) (ha : ∀ x ∈ a, 0 ≤ x ∧ x ≤ 9999) (hi : isCsi r) : CallE EZ ys lo 81 [.op n 0 0 0, .v (.int .i32 r), A] H fun x H' => x = .tup [] ∧ SP 110 lo H' n m e (s.csi1 r a) ∧ Fr H H' n m m := by
  by_cases h1 : r = 74
  · exact rcsi_jk hS hg hcw r hA hA0 hl ha (.inl h1)
  by_cases h2 : r = 75
  · exact rcsi_jk hS hg hcw r hA hA0 hl ha (.inr h2)
  · exact rcsi_m hS hg hcw r hA hA0 hl ha h1 h2 hi
theorem rDo_run (hS : SP 110 lo H n m e s) (hg : ScG s) (k r : Int) (hr : -2147483648 ≤ r ∧ r ≤ 2147483647) (t : ByteArray) (hA : SlH H 1 A (ints a)) (hA0 : ∀ k, nameOf A k → k ≠ n ∧ k ≠ m) (hl : a.length < 2 ^ 40) (ha : ∀ x ∈ a, 0 ≤ x ∧ x ≤ 9999) : CallE EZ ys lo 47 [.op n 0 0 0, .agg [.v (.int .i64 k), .v (.int .i32 r), A, .v (.string t)]] H fun x H' => ∃ m' e', SP 110 lo H' n m' e' (s.ev k r a).1 ∧ Fr H H' n m m' ∧ OutS H H' m' x (s.ev k r a).2 := by
  have ⟨nl, ml, nn, mn, ne, hb, hm⟩ := hS
  have w2 := hg.w2; have w3 := hg.w3; have c0 := hg.c0; have cw := hg.cw
  have hct := cells_SlH hA
  have hS1 := hS.ext ((Ext.refl _).push (evk k r A t))
  have hF1 := (Fr.refl H n m).push (evk k r A t)
  have hpr := fun ys => rprint_run (ys := ys) hS1 hg r hr
  have hdiv : s.col.tdiv 8 = s.col / 8 := by rw [Int.tdiv_eq_ediv_of_nonneg c0]
  have hS2 := (hS.turn { s with col := min s.col (s.w - 1) } rfl).ext ((Ext.refl _).push (evk k r A t))
  have hF2 := ((Fr.refl H n m).setn ⟨110, 6, 0, [[.v (.int .i64 s.w), .v (.int .i64 s.h), .os m e 0 s.rows.length, .v (.int .i64 s.row), .v (.int .i64 (min s.col (s.w - 1))), .v (.int .i64 s.attr)]], none⟩).push (evk k r A t)
  have hg2 := hg.col (c := min s.col (s.w - 1)) (by omega) (by omega)
  have hdn := fun ys => rdown_run (ys := ys) hS2 hg2
  have hcs := fun ys hi => rcsi_run (ys := ys) hS2 hg2 (by show min s.col (s.w - 1) < s.w; omega) r (hF2.ext hA hA0) hA0 hl ha hi
  have hev : s.ev k r a = if k = 1 then s.pr r else if k = 2 then s.ctl r else if k = 3 then (s.csi r a, []) else (s, []) := rfl
  have hcs1 : isCsi r → s.csi r a = ({ s with col := min s.col (s.w - 1) } : Sc).csi1 r a := fun h => by unfold Sc.csi; rw [if_pos h]; rfl
  have hct8 : s.ctl r = if r = 8 then ({ s with col := max (s.col - 1) 0 }, []) else if r = 9 then ({ s with col := min ((s.col / 8 + 1) * 8) (s.w - 1) }, []) else if r = 10 then ({ s with col := min s.col (s.w - 1) } : Sc).dn else if r = 13 then ({ s with col := 0 }, []) else (s, []) := rfl
  refine WC.effE rfl ?_
  by_cases h1 : k = 1
  · rw [hev, if_pos h1]
    refine zvin Tryz.func47 Tryz.ntmps47 ?_
    repeat' (first
     | refine zka ?_
     | refine zkb ?_
     | (apply RKp.op; ((try simp (disch := (first | omega | exact zX | exact zO | fail)) only [hb, hm, nth_rowsA, rowsA_len, rowsA_set, List.length_set, hct, go_sem, Nat.reduceDiv, Nat.reduceMod, Nat.reduceAdd, Nat.reduceSub, Nat.reduceEqDiff, Nat.reduceLeDiff, Nat.reduceLT, Nat.reduceMul, reduceIte, Nat.reducePow, Int.reduceEq]); exact zL); rfl)
     | (apply RKp.callE; (apply hpr <;> (exact zD)); (intro x; rfl))
     | refine zkc ?_
     | apply RKg.tt
     | apply RKg.ff
     | refine zkd ?_
     | refine zke ?_
     | refine zkf ?_
     | (refine RKg.split (fun h => ?_) (fun h => ?_) <;> (try rw [h]) <;> (replace h := zB h) <;> (try (exfalso; first | exact h | omega)))
     | apply RK.nil
     | apply V.sq
     | apply V.bl
     | apply V.sc
     | apply V.skip
     | apply V.label
     | apply V.ret
     | apply V.exit
     | apply SeqQ.normal
     | apply SeqQ.ret
     | apply SeqQ.exit
     | apply BlockQ.normal
     | apply BlockQ.ret
     | apply BlockQ.here
     | refine zbt ?_
     | apply LoopS.ret
     | apply LoopS.exit
     | apply LoopF.ret
     | apply LoopF.exit
     | apply V.regK
      | refine zva ?_
     | refine zvb ?_
     | refine zgc ?_
     | refine zvd ?_
     | refine zve ?_
     | (refine zvf (fun h => ?_) (fun h => ?_) <;> (replace h := zB h) <;> (try (exfalso; first | exact h | omega)))
      | (refine zfc Tryz.results47 ?_; (try dsimp only)))
    rintro x H2 tr ⟨m', e', hS2, hF2, hO2⟩
    repeat' (first
     | refine zka ?_
     | refine zkb ?_
     | (apply RKp.op; ((try simp (disch := (first | omega | exact zX | exact zO | fail)) only [go_sem, Nat.reduceDiv, Nat.reduceMod, Nat.reduceAdd, Nat.reduceSub, Nat.reduceEqDiff, Nat.reduceLeDiff, Nat.reduceLT, Nat.reduceMul, reduceIte, Nat.reducePow, Int.reduceEq]); exact zL); rfl)
     | refine zkc ?_
     | apply RKg.tt
     | apply RKg.ff
     | refine zkd ?_
     | refine zke ?_
     | refine zkf ?_
     | (refine RKg.split (fun h => ?_) (fun h => ?_) <;> (try rw [h]) <;> (replace h := zB h) <;> (try (exfalso; first | exact h | omega)))
     | apply RK.nil
     | apply V.sq
     | apply V.bl
     | apply V.sc
     | apply V.skip
     | apply V.label
     | apply V.ret
     | apply V.exit
     | apply SeqQ.normal
     | apply SeqQ.ret
     | apply SeqQ.exit
     | apply BlockQ.normal
     | apply BlockQ.ret
     | apply BlockQ.here
     | refine zbt ?_
     | apply LoopS.ret
     | apply LoopS.exit
     | apply LoopF.ret
     | apply LoopF.exit
     | apply V.regK
      | refine zva ?_
     | refine zvb ?_
     | refine zgc ?_
     | refine zvd ?_
     | refine zve ?_
     | (refine zvf (fun h => ?_) (fun h => ?_) <;> (replace h := zB h) <;> (try (exfalso; first | exact h | omega)))
      | (refine zfc Tryz.results47 ?_; (try dsimp only)))
    exact ⟨m', e', hS2, hF1.trans hF2, hO2.from (by rw [next_push]; omega)⟩
  by_cases h2 : k = 2
  · rw [hev, if_neg h1, if_pos h2, hct8]
    refine zvin Tryz.func47 Tryz.ntmps47 ?_
    repeat' (first
     | refine zka ?_
     | refine zkb ?_
     | (apply RKp.op; ((try simp (disch := (first | omega | exact zX | exact zO | fail)) only [hb, hm, nth_rowsA, rowsA_len, rowsA_set, List.length_set, hct, hdiv, go_sem, Nat.reduceDiv, Nat.reduceMod, Nat.reduceAdd, Nat.reduceSub, Nat.reduceEqDiff, Nat.reduceLeDiff, Nat.reduceLT, Nat.reduceMul, reduceIte, Nat.reducePow, Int.reduceEq]); exact zL); rfl)
     | (apply RKp.callE; (apply hdn <;> (exact zD)); (intro x; rfl))
     | refine zkc ?_
     | apply RKg.tt
     | apply RKg.ff
     | refine zkd ?_
     | refine zke ?_
     | refine zkf ?_
     | (refine RKg.split (fun h => ?_) (fun h => ?_) <;> (try rw [h]) <;> (replace h := zB h) <;> (try (exfalso; first | exact h | omega)))
     | apply RK.nil
     | apply V.sq
     | apply V.bl
     | apply V.sc
     | apply V.skip
     | apply V.label
     | apply V.ret
     | apply V.exit
     | apply SeqQ.normal
     | apply SeqQ.ret
     | apply SeqQ.exit
     | apply BlockQ.normal
     | apply BlockQ.ret
     | apply BlockQ.here
     | refine zbt ?_
     | apply LoopS.ret
     | apply LoopS.exit
     | apply LoopF.ret
     | apply LoopF.exit
     | apply V.regK
      | refine zva ?_
     | refine zvb ?_
     | refine zgc ?_
     | refine zvd ?_
     | refine zve ?_
     | (refine zvf (fun h => ?_) (fun h => ?_) <;> (replace h := zB h) <;> (try (exfalso; first | exact h | omega)))
      | (refine zfc Tryz.results47 ?_; (try dsimp only)))
    · rw [if_pos h, show max (s.col - 1) 0 = max 0 (s.col - 1) from Int.max_comm _ _]
      exact ⟨m, e, (hS.turn { s with col := max 0 (s.col - 1) } rfl).ext ((Ext.refl _).push _), ((Fr.refl H n m).setn _).push _, OutS.nil _ _ _⟩
    · rw [if_neg (by omega), if_pos h, show min ((s.col / 8 + 1) * 8) (s.w - 1) = min (s.w - 1) ((s.col / 8 + 1) * 8) from Int.min_comm _ _]
      exact ⟨m, e, (hS.turn { s with col := min (s.w - 1) ((s.col / 8 + 1) * 8) } rfl).ext ((Ext.refl _).push _), ((Fr.refl H n m).setn _).push _, OutS.nil _ _ _⟩
    · rw [if_neg (by omega), if_neg (by omega), if_pos h]
      rintro x H2 tr ⟨m', e', hS3, hF3, hO3⟩
      repeat' (first
       | refine zka ?_
       | refine zkb ?_
       | (apply RKp.op; ((try simp (disch := (first | omega | exact zX | exact zO | fail)) only [go_sem, Nat.reduceDiv, Nat.reduceMod, Nat.reduceAdd, Nat.reduceSub, Nat.reduceEqDiff, Nat.reduceLeDiff, Nat.reduceLT, Nat.reduceMul, reduceIte, Nat.reducePow, Int.reduceEq]); exact zL); rfl)
       | refine zkc ?_
       | apply RKg.tt
       | apply RKg.ff
       | refine zkd ?_
       | refine zke ?_
       | refine zkf ?_
       | (refine RKg.split (fun h => ?_) (fun h => ?_) <;> (try rw [h]) <;> (replace h := zB h) <;> (try (exfalso; first | exact h | omega)))
       | apply RK.nil
       | apply V.sq
       | apply V.bl
       | apply V.sc
       | apply V.skip
       | apply V.label
       | apply V.ret
       | apply V.exit
       | apply SeqQ.normal
       | apply SeqQ.ret
       | apply SeqQ.exit
       | apply BlockQ.normal
       | apply BlockQ.ret
       | apply BlockQ.here
       | refine zbt ?_
       | apply LoopS.ret
       | apply LoopS.exit
       | apply LoopF.ret
       | apply LoopF.exit
       | apply V.regK
        | refine zva ?_
       | refine zvb ?_
       | refine zgc ?_
       | refine zvd ?_
       | refine zve ?_
       | (refine zvf (fun h => ?_) (fun h => ?_) <;> (replace h := zB h) <;> (try (exfalso; first | exact h | omega)))
        | (refine zfc Tryz.results47 ?_; (try dsimp only)))
      exact ⟨m', e', hS3, hF2.trans hF3, hO3.from (by rw [next_push, next_set]; omega)⟩
    · rw [if_neg (by omega), if_neg (by omega), if_neg (by omega), if_pos h]
      exact ⟨m, e, (hS.turn { s with col := 0 } rfl).ext ((Ext.refl _).push _), ((Fr.refl H n m).setn _).push _, OutS.nil _ _ _⟩
    · rw [if_neg (by omega), if_neg (by omega), if_neg (by omega), if_neg (by omega)]
      exact ⟨m, e, hS1, hF1, OutS.nil _ _ _⟩
  by_cases h3 : k = 3
  · rw [hev, if_neg h1, if_neg h2, if_pos h3]
    by_cases hi : isCsi r
    · have hcs' := fun ys => hcs ys hi
      rw [hcs1 hi]
      unfold isCsi at hi
      refine zvin Tryz.func47 Tryz.ntmps47 ?_
      repeat' (first
       | refine zka ?_
       | refine zkb ?_
       | (apply RKp.op; ((try simp (disch := (first | omega | exact zX | exact zO | fail)) only [hb, hm, nth_rowsA, rowsA_len, rowsA_set, List.length_set, hct, go_sem, Nat.reduceDiv, Nat.reduceMod, Nat.reduceAdd, Nat.reduceSub, Nat.reduceEqDiff, Nat.reduceLeDiff, Nat.reduceLT, Nat.reduceMul, reduceIte, Nat.reducePow, Int.reduceEq]); exact zL); rfl)
       | (apply RKp.call; (apply hcs' <;> (exact zD)); rfl)
       | (apply RKp.callR; (apply hcs' <;> (exact zD)); rfl; intro tr htr)
       | (apply RKp.callO; (apply hcs' <;> (exact zD)); rfl; intro tr)
       | (apply RKp.callRE; (apply hcs' <;> (exact zD)); (intro x; rfl))
       | (apply RKp.callE; (apply hcs' <;> (exact zD)); (intro x; rfl))
       | refine zkc ?_
       | apply RKg.tt
       | apply RKg.ff
       | refine zkd ?_
       | refine zke ?_
       | refine zkf ?_
       | (refine RKg.split (fun h => ?_) (fun h => ?_) <;> (try rw [h]) <;> (replace h := zB h) <;> (try (exfalso; first | exact h | omega)))
       | apply RK.nil
       | apply V.sq
       | apply V.bl
       | apply V.sc
       | apply V.skip
       | apply V.label
       | apply V.ret
       | apply V.exit
       | apply SeqQ.normal
       | apply SeqQ.ret
       | apply SeqQ.exit
       | apply BlockQ.normal
       | apply BlockQ.ret
       | apply BlockQ.here
       | refine zbt ?_
       | apply LoopS.ret
       | apply LoopS.exit
       | apply LoopF.ret
       | apply LoopF.exit
       | apply V.regK
        | refine zva ?_
       | refine zvb ?_
       | refine zgc ?_
       | refine zvd ?_
       | refine zve ?_
       | (refine zvf (fun h => ?_) (fun h => ?_) <;> (replace h := zB h) <;> (try (exfalso; first | exact h | omega)))
        | (refine zfc Tryz.results47 ?_; (try dsimp only)))
      all_goals first
        | (exfalso; omega)
        | (rintro x H2 tr ⟨rfl, hS3, hF3⟩
           repeat' (first
            | refine zka ?_
            | refine zkb ?_
            | (apply RKp.op; ((try simp (disch := (first | omega | exact zX | exact zO | fail)) only [go_sem, Nat.reduceDiv, Nat.reduceMod, Nat.reduceAdd, Nat.reduceSub, Nat.reduceEqDiff, Nat.reduceLeDiff, Nat.reduceLT, Nat.reduceMul, reduceIte, Nat.reducePow, Int.reduceEq]); exact zL); rfl)
            | refine zkc ?_
            | apply RKg.tt
            | apply RKg.ff
            | refine zkd ?_
            | refine zke ?_
            | refine zkf ?_
            | (refine RKg.split (fun h => ?_) (fun h => ?_) <;> (try rw [h]) <;> (replace h := zB h) <;> (try (exfalso; first | exact h | omega)))
            | apply RK.nil
            | apply V.sq
            | apply V.bl
            | apply V.sc
            | apply V.skip
            | apply V.label
            | apply V.ret
            | apply V.exit
            | apply SeqQ.normal
            | apply SeqQ.ret
            | apply SeqQ.exit
            | apply BlockQ.normal
            | apply BlockQ.ret
            | apply BlockQ.here
            | refine zbt ?_
            | apply LoopS.ret
            | apply LoopS.exit
            | apply LoopF.ret
            | apply LoopF.exit
            | apply V.regK
             | refine zva ?_
            | refine zvb ?_
            | refine zgc ?_
            | refine zvd ?_
            | refine zve ?_
            | (refine zvf (fun h => ?_) (fun h => ?_) <;> (replace h := zB h) <;> (try (exfalso; first | exact h | omega)))
             | (refine zfc Tryz.results47 ?_; (try dsimp only)))
           exact ⟨m, e, hS3, hF2.trans hF3, OutS.nil _ _ _⟩)
        | trace_state
    · rw [show s.csi r a = s by unfold Sc.csi; rw [if_neg hi]]
      unfold isCsi at hi
      refine zvin Tryz.func47 Tryz.ntmps47 ?_
      repeat' (first
       | refine zka ?_
       | refine zkb ?_
       | (apply RKp.op; ((try simp (disch := (first | omega | exact zX | exact zO | fail)) only [hb, hm, nth_rowsA, rowsA_len, rowsA_set, List.length_set, hct, go_sem, Nat.reduceDiv, Nat.reduceMod, Nat.reduceAdd, Nat.reduceSub, Nat.reduceEqDiff, Nat.reduceLeDiff, Nat.reduceLT, Nat.reduceMul, reduceIte, Nat.reducePow, Int.reduceEq]); exact zL); rfl)
       | refine zkc ?_
       | apply RKg.tt
       | apply RKg.ff
       | refine zkd ?_
       | refine zke ?_
       | refine zkf ?_
       | (refine RKg.split (fun h => ?_) (fun h => ?_) <;> (try rw [h]) <;> (replace h := zB h) <;> (try (exfalso; first | exact h | omega)))
       | apply RK.nil
       | apply V.sq
       | apply V.bl
       | apply V.sc
       | apply V.skip
       | apply V.label
       | apply V.ret
       | apply V.exit
       | apply SeqQ.normal
       | apply SeqQ.ret
       | apply SeqQ.exit
       | apply BlockQ.normal
       | apply BlockQ.ret
       | apply BlockQ.here
       | refine zbt ?_
       | apply LoopS.ret
       | apply LoopS.exit
       | apply LoopF.ret
       | apply LoopF.exit
       | apply V.regK
        | refine zva ?_
       | refine zvb ?_
       | refine zgc ?_
       | refine zvd ?_
       | refine zve ?_
       | (refine zvf (fun h => ?_) (fun h => ?_) <;> (replace h := zB h) <;> (try (exfalso; first | exact h | omega)))
        | (refine zfc Tryz.results47 ?_; (try dsimp only)))
      all_goals first
        | (exfalso; omega)
        | exact ⟨m, e, hS1, hF1, OutS.nil _ _ _⟩
        | trace_state
  · rw [hev, if_neg h1, if_neg h2, if_neg h3]
    refine zvin Tryz.func47 Tryz.ntmps47 ?_
    repeat' (first
     | refine zka ?_
     | refine zkb ?_
     | (apply RKp.op; ((try simp (disch := (first | omega | exact zX | exact zO | fail)) only [hb, hm, nth_rowsA, rowsA_len, rowsA_set, List.length_set, hct, go_sem, Nat.reduceDiv, Nat.reduceMod, Nat.reduceAdd, Nat.reduceSub, Nat.reduceEqDiff, Nat.reduceLeDiff, Nat.reduceLT, Nat.reduceMul, reduceIte, Nat.reducePow, Int.reduceEq]); exact zL); rfl)
     | refine zkc ?_
     | apply RKg.tt
     | apply RKg.ff
     | refine zkd ?_
     | refine zke ?_
     | refine zkf ?_
     | (refine RKg.split (fun h => ?_) (fun h => ?_) <;> (try rw [h]) <;> (replace h := zB h) <;> (try (exfalso; first | exact h | omega)))
     | apply RK.nil
     | apply V.sq
     | apply V.bl
     | apply V.sc
     | apply V.skip
     | apply V.label
     | apply V.ret
     | apply V.exit
     | apply SeqQ.normal
     | apply SeqQ.ret
     | apply SeqQ.exit
     | apply BlockQ.normal
     | apply BlockQ.ret
     | apply BlockQ.here
     | refine zbt ?_
     | apply LoopS.ret
     | apply LoopS.exit
     | apply LoopF.ret
     | apply LoopF.exit
     | apply V.regK
      | refine zva ?_
     | refine zvb ?_
     | refine zgc ?_
     | refine zvd ?_
     | refine zve ?_
     | (refine zvf (fun h => ?_) (fun h => ?_) <;> (replace h := zB h) <;> (try (exfalso; first | exact h | omega)))
      | (refine zfc Tryz.results47 ?_; (try dsimp only)))
    exact ⟨m, e, hS1, hF1, OutS.nil _ _ _⟩
end
end Go.Am
