
/- The program's screen: erase, down. -/
import Derived.Test.YtoeemmlfcnokiaaAScr2
set_option linter.all false
set_option linter.deprecated false
namespace Go.Am
open Go.Proofs
set_option maxRecDepth 8000
set_option maxHeartbeats 4000000
section
variable {ys : List (Nat × LRec)} {lo : Nat} {H : AHeap} {n m e : Nat} {s : Sc}
theorem RwG.curl {w : Int} {r : Rw} (h : RwG w r) (w2 : 2 ≤ w) (w3 : w ≤ 300) : r.1.length < 2 ^ 40 ∧ r.1 ≠ [] := by
  have := h.2.2
  exact ⟨by omega, fun e => by rw [e] at this; simp at this; omega⟩
theorem erase_run (hS : SP 73 lo H n m e s) (hg : ScG s) (i : Nat) (hi : i < s.rows.length) (a b : Int) (ha : -9223372036854775808 ≤ a ∧ a ≤ 9223372036854775807) (hbb : -9223372036854775808 ≤ b ∧ b ≤ 9223372036854775807) : CallO EA ys lo 85 [.op n 0 0 0, .v (.int .i64 i), .v (.int .i64 a), .v (.int .i64 b)] H (.tup []) (H.set m ⟨45, 2, e, rowsA (s.rows.set i (rowEra (s.rows.getD i noRw) a b)), none⟩) := by
  have ⟨nl, ml, nn, mn, ne, hb, hm⟩ := hS
  obtain ⟨c1, c2⟩ := (hg.rw _ (getMem noRw hi)).curl hg.w2 hg.w3
  have hera := fun ys => Erase_D (ys := ys) (lo := lo) (H := H) (wr := (s.rows.getD i noRw).2) c2 c1 a b ha hbb
  have hin : ((i : Int)).toNat = i := Int.toNat_natCast i
  have hlen := hg.len; have h2 := hg.h2
  refine WC.effO rfl ?_
  refine zvin Try.func85 Try.ntmps85 ?_
  repeat' (first
   | refine zka ?_
   | refine zkb ?_
   | (apply RKp.op; ((try simp (disch := (first | omega | exact zX | exact zO | fail)) only [hb, hm, nth_rowsA, rowsA_len, rowsA_set, hin, go_sem, Nat.reduceDiv, Nat.reduceMod, Nat.reduceAdd, Nat.reduceSub, Nat.reduceEqDiff, Nat.reduceLeDiff, Nat.reduceLT, Nat.reduceMul, reduceIte, Nat.reducePow, Int.reduceEq]); exact zL); rfl)
   | (apply RKp.callR; (apply hera <;> (exact zD)); rfl; intro tr htr)
   | refine zkc ?_
   | apply RKg.tt
   | apply RKg.ff
   | refine zkd ?_
   | refine zke ?_
   | refine zkf ?_
   | (refine RKg.split (fun h => ?_) (fun h => ?_) <;> (try rw [h]) <;> (replace h := zB h) <;> (try (exfalso; first | exact h | omega)))
   | apply RK.nil
   | apply V.sq
   | apply V.bl
   | apply V.sc
   | apply V.skip
   | apply V.label
   | apply V.ret
   | apply V.exit
   | apply SeqQ.normal
   | apply SeqQ.ret
   | apply SeqQ.exit
   | apply BlockQ.normal
   | apply BlockQ.ret
   | apply BlockQ.here
   | refine zbt ?_
   | apply LoopS.ret
   | apply LoopS.exit
   | apply LoopF.ret
   | apply LoopF.exit
   | apply V.regK
    | refine zva ?_
   | refine zvb ?_
   | refine zgc ?_
   | refine zvd ?_
   | refine zve ?_
   | (refine zvf (fun h => ?_) (fun h => ?_) <;> (replace h := zB h) <;> (try (exfalso; first | exact h | omega)))
    | (refine zfa Try.results85 ?_; (try dsimp only))
   | (refine zfb Try.results85 ?_; (try dsimp only)))
  exact ⟨rfl, rfl⟩
theorem down_run (hS : SP 73 lo H n m e s) (hg : ScG s) : CallE EA ys lo 57 [.op n 0 0 0] H fun x H' => ∃ m' e', SP 73 lo H' n m' e' s.dn.1 ∧ Fr H H' n m m' ∧ OutS H H' m' x s.dn.2 := by
  have ⟨nl, ml, nn, mn, ne, hb, hm⟩ := hS
  have r0 := hg.r0; have rh := hg.rh; have hlen := hg.len; have h1 := hg.h1; have h2 := hg.h2; have w2 := hg.w2; have w3 := hg.w3
  refine WC.effE rfl ?_
  by_cases hr : s.row + 1 < s.h
  · have e1 : s.dn = ({ s with row := s.row + 1 }, []) := by unfold Sc.dn; rw [if_pos hr]
    refine zvin Try.func57 Try.ntmps57 ?_
    repeat' (first
     | refine zka ?_
     | refine zkb ?_
     | (apply RKp.op; ((try simp (disch := (first | omega | exact zX | exact zO | fail)) only [hb, hm, nth_rowsA, rowsA_len, rowsA_set, go_sem, Nat.reduceDiv, Nat.reduceMod, Nat.reduceAdd, Nat.reduceSub, Nat.reduceEqDiff, Nat.reduceLeDiff, Nat.reduceLT, Nat.reduceMul, reduceIte, Nat.reducePow, Int.reduceEq]); exact zL); rfl)
     | refine zkc ?_
     | apply RKg.tt
     | apply RKg.ff
     | refine zkd ?_
     | refine zke ?_
     | refine zkf ?_
     | (refine RKg.split (fun h => ?_) (fun h => ?_) <;> (try rw [h]) <;> (replace h := zB h) <;> (try (exfalso; first | exact h | omega)))
     | apply RK.nil
     | apply V.sq
     | apply V.bl
     | apply V.sc
     | apply V.skip
     | apply V.label
     | apply V.ret
     | apply V.exit
     | apply SeqQ.normal
     | apply SeqQ.ret
     | apply SeqQ.exit
     | apply BlockQ.normal
     | apply BlockQ.ret
     | apply BlockQ.here
     | refine zbt ?_
     | apply LoopS.ret
     | apply LoopS.exit
     | apply LoopF.ret
     | apply LoopF.exit
     | apply V.regK
      | refine zva ?_
     | refine zvb ?_
     | refine zgc ?_
     | refine zvd ?_
     | refine zve ?_
     | (refine zvf (fun h => ?_) (fun h => ?_) <;> (replace h := zB h) <;> (try (exfalso; first | exact h | omega)))
      | (refine zfc Try.results57 ?_; (try dsimp only)))
    rw [e1]
    exact ⟨m, e, hS.turn { s with row := s.row + 1 } rfl, (Fr.refl H n m).setn _, OutS.nil _ _ _⟩
  · have e1 : s.dn = ({ s with rows := s.rows.tail ++ [(blanks s.w.toNat, false)] }, [s.rows.getD 0 noRw]) := by unfold Sc.dn; rw [if_neg hr]
    have htl : s.rows.tail.length = s.rows.length - 1 := List.length_tail
    have hsl := fun G (x : Ext H G) => hS.sl1 lo x (by omega)
    have hBl := fun ys G => Blank_D (ys := ys) (lo := lo) (H := G) s.w (by omega) w3
    by_cases h0 : s.h = 1
    · have e2 : s.rows.tail = [] := List.eq_nil_of_length_eq_zero (by omega)
      have hCl := fun ys G (x : Ext H G) => CloneR_E (ys := ys) (lo := lo) (H := G) (A := .os m e 1 (s.rows.length - 1)) (by have := hS.tail x (by omega); rw [e2] at this; exact this) (by intro h; cases h)
      refine zvin Try.func57 Try.ntmps57 ?_
      repeat' (first
       | refine zka ?_
       | refine zkb ?_
       | (apply RKp.op; ((try simp (disch := (first | omega | exact zX | exact zO | fail)) only [hb, hm, nth_rowsA, rowsA_len, rowsA_set, hsl, app_rows0 lo, Int.toNat_zero, go_sem, Nat.reduceDiv, Nat.reduceMod, Nat.reduceAdd, Nat.reduceSub, Nat.reduceEqDiff, Nat.reduceLeDiff, Nat.reduceLT, Nat.reduceMul, reduceIte, Nat.reducePow, Int.reduceEq]); exact zL); rfl)
       | (apply RKp.callR; (apply hBl <;> (exact zD)); rfl; intro tr htr)
       | (apply RKp.callN; (apply hCl <;> (exact zD)); rfl; intro tr htr)
       | refine zkc ?_
       | apply RKg.tt
       | apply RKg.ff
       | refine zkd ?_
       | refine zke ?_
       | refine zkf ?_
       | (refine RKg.split (fun h => ?_) (fun h => ?_) <;> (try rw [h]) <;> (replace h := zB h) <;> (try (exfalso; first | exact h | omega)))
       | apply RK.nil
       | apply V.sq
       | apply V.bl
       | apply V.sc
       | apply V.skip
       | apply V.label
       | apply V.ret
       | apply V.exit
       | apply SeqQ.normal
       | apply SeqQ.ret
       | apply SeqQ.exit
       | apply BlockQ.normal
       | apply BlockQ.ret
       | apply BlockQ.here
       | refine zbt ?_
       | apply LoopS.ret
       | apply LoopS.exit
       | apply LoopF.ret
       | apply LoopF.exit
       | apply V.regK
        | refine zva ?_
       | refine zvb ?_
       | refine zgc ?_
       | refine zvd ?_
       | refine zve ?_
       | (refine zvf (fun h => ?_) (fun h => ?_) <;> (replace h := zB h) <;> (try (exfalso; first | exact h | omega)))
        | (refine zfc Try.results57 ?_; (try dsimp only)))
      rw [e1, e2]
      refine ⟨H.next + 1 + 1, 0, ⟨nl, by omega, by (first | omega | (simp only [next_push, next_set, next_empty]; done) | (simp only [next_push, next_set, next_empty]; omega)), by (first | omega | (simp only [next_push, next_set, next_empty]; done) | (simp only [next_push, next_set, next_empty]; omega)), by omega, ?_, ?_⟩, (((((Fr.refl H n m).setn _).push _).push _).push _).push _ |>.re (by omega), OutS.one _ ?_ ?_ ?_ ?_⟩
      · simp (disch := (first | omega | exact zX | fail)) only [get_set, get_push, next_push, next_set, if_pos', if_neg', if_true, if_false, reduceIte]
        rfl
      · simp (disch := (first | omega | exact zX | fail)) only [get_set, get_push, next_push, next_set, if_pos', if_neg', if_true, if_false, reduceIte]
        rfl
      · (first | omega | (simp only [next_push, next_set, next_empty]; done) | (simp only [next_push, next_set, next_empty]; omega))
      · (first | omega | (simp only [next_push, next_set, next_empty]; done) | (simp only [next_push, next_set, next_empty]; omega))
      · (first | omega | (simp only [next_push, next_set, next_empty]; done) | (simp only [next_push, next_set, next_empty]; omega))
      · simp (disch := (first | omega | exact zX | fail)) only [get_set, get_push, next_push, next_set, if_pos', if_neg', if_true, if_false, reduceIte]
    · have e2 : s.rows.tail ≠ [] := fun h => by rw [h] at htl; simp at htl; omega
      have hCl := fun ys G (x : Ext H G) => CloneR_N (ys := ys) (lo := lo) (H := G) (A := .os m e 1 (s.rows.length - 1)) (hS.tail x (by omega)) e2 (by omega)
      refine zvin Try.func57 Try.ntmps57 ?_
      repeat' (first
       | refine zka ?_
       | refine zkb ?_
       | (apply RKp.op; ((try simp (disch := (first | omega | exact zX | exact zO | fail)) only [hb, hm, nth_rowsA, rowsA_len, rowsA_set, hsl, app_rows1 lo, Int.toNat_zero, go_sem, Nat.reduceDiv, Nat.reduceMod, Nat.reduceAdd, Nat.reduceSub, Nat.reduceEqDiff, Nat.reduceLeDiff, Nat.reduceLT, Nat.reduceMul, reduceIte, Nat.reducePow, Int.reduceEq]); exact zL); rfl)
       | (apply RKp.callR; (apply hBl <;> (exact zD)); rfl; intro tr htr)
       | (apply RKp.callN; (apply hCl <;> (exact zD)); rfl; intro tr htr)
       | refine zkc ?_
       | apply RKg.tt
       | apply RKg.ff
       | refine zkd ?_
       | refine zke ?_
       | refine zkf ?_
       | (refine RKg.split (fun h => ?_) (fun h => ?_) <;> (try rw [h]) <;> (replace h := zB h) <;> (try (exfalso; first | exact h | omega)))
       | apply RK.nil
       | apply V.sq
       | apply V.bl
       | apply V.sc
       | apply V.skip
       | apply V.label
       | apply V.ret
       | apply V.exit
       | apply SeqQ.normal
       | apply SeqQ.ret
       | apply SeqQ.exit
       | apply BlockQ.normal
       | apply BlockQ.ret
       | apply BlockQ.here
       | refine zbt ?_
       | apply LoopS.ret
       | apply LoopS.exit
       | apply LoopF.ret
       | apply LoopF.exit
       | apply V.regK
        | refine zva ?_
       | refine zvb ?_
       | refine zgc ?_
       | refine zvd ?_
       | refine zve ?_
       | (refine zvf (fun h => ?_) (fun h => ?_) <;> (replace h := zB h) <;> (try (exfalso; first | exact h | omega)))
        | (refine zfc Try.results57 ?_; (try dsimp only)))
      rw [e1]
      refine ⟨H.next + 1, 1, ⟨nl, by omega, by (first | omega | (simp only [next_push, next_set, next_empty]; done) | (simp only [next_push, next_set, next_empty]; omega)), by (first | omega | (simp only [next_push, next_set, next_empty]; done) | (simp only [next_push, next_set, next_empty]; omega)), by omega, ?_, ?_⟩, (((((Fr.refl H n m).setn _).push _).push _).push _).push _ |>.re (by omega), OutS.one _ ?_ ?_ ?_ ?_⟩
      · simp (disch := (first | omega | exact zX | fail)) only [get_set, get_push, next_push, next_set, if_pos', if_neg', if_true, if_false, reduceIte]
        rw [List.length_append]; rfl
      · simp (disch := (first | omega | exact zX | fail)) only [get_set, get_push, next_push, next_set, if_pos', if_neg', if_true, if_false, reduceIte]
      · (first | omega | (simp only [next_push, next_set, next_empty]; done) | (simp only [next_push, next_set, next_empty]; omega))
      · (first | omega | (simp only [next_push, next_set, next_empty]; done) | (simp only [next_push, next_set, next_empty]; omega))
      · (first | omega | (simp only [next_push, next_set, next_empty]; done) | (simp only [next_push, next_set, next_empty]; omega))
      · simp (disch := (first | omega | exact zX | fail)) only [get_set, get_push, next_push, next_set, if_pos', if_neg', if_true, if_false, reduceIte]
end
end Go.Am
