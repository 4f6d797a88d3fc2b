/- The reference's screen: wipe, down, print. -/
import Derived.Test.YtoeemmlfcnokiaaGreatScr6
set_option linter.all false
set_option linter.deprecated false
namespace Go.Am
open Go.Proofs
set_option maxRecDepth 8000
set_option maxHeartbeats 4000000
section
variable {ys : List (Nat × LRec)} {lo : Nat} {H : AHeap} {n m e : Nat} {s : Sc}
theorem wipe_run (hS : SP 110 lo H n m e s) (hg : ScG s) (i : Nat) (hi : i < s.rows.length) (a b : Int) (ha : -9223372036854775808 ≤ a ∧ a ≤ 9223372036854775807) (hbb : -9223372036854775808 ≤ b ∧ b ≤ 9223372036854775807) : CallO EZ ys lo 102 [.op n 0 0 0, .v (.int .i64 i), .v (.int .i64 a), .v (.int .i64 b)] H (.tup []) (H.set m ⟨47, 2, e, rowsA (s.rows.set i (rowEra (s.rows.getD i noRw) a b)), none⟩) := by
  have ⟨nl, ml, nn, mn, ne, hb, hm⟩ := hS
  have hrw := hg.rw _ (getMem noRw hi)
  obtain ⟨c1, c2⟩ := hrw.curl hg.w2 hg.w3
  have hera := fun ys => refErase_D (ys := ys) (lo := lo) (H := H) (wr := (s.rows.getD i noRw).2) c2 c1 hrw.2.1 a b ha hbb
  have hin : ((i : Int)).toNat = i := Int.toNat_natCast i
  have hlen := hg.len; have h2 := hg.h2
  refine WC.effO rfl ?_
  refine zvin Tryz.func102 Tryz.ntmps102 ?_
  repeat' (first
   | refine zka ?_
   | refine zkb ?_
   | (apply RKp.op; ((try simp (disch := (first | omega | exact zX | exact zO | fail)) only [hb, hm, nth_rowsA, rowsA_len, rowsA_set, List.length_set, hin, go_sem, Nat.reduceDiv, Nat.reduceMod, Nat.reduceAdd, Nat.reduceSub, Nat.reduceEqDiff, Nat.reduceLeDiff, Nat.reduceLT, Nat.reduceMul, reduceIte, Nat.reducePow, Int.reduceEq]); exact zL); rfl)
   | (apply RKp.callR; (apply hera <;> (exact zD)); rfl; intro tr htr)
   | refine zkc ?_
   | apply RKg.tt
   | apply RKg.ff
   | refine zkd ?_
   | refine zke ?_
   | refine zkf ?_
   | (refine RKg.split (fun h => ?_) (fun h => ?_) <;> (try rw [h]) <;> (replace h := zB h) <;> (try (exfalso; first | exact h | omega)))
   | apply RK.nil
   | apply V.sq
   | apply V.bl
   | apply V.sc
   | apply V.skip
   | apply V.label
   | apply V.ret
   | apply V.exit
   | apply SeqQ.normal
   | apply SeqQ.ret
   | apply SeqQ.exit
   | apply BlockQ.normal
   | apply BlockQ.ret
   | apply BlockQ.here
   | refine zbt ?_
   | apply LoopS.ret
   | apply LoopS.exit
   | apply LoopF.ret
   | apply LoopF.exit
   | apply V.regK
    | refine zva ?_
   | refine zvb ?_
   | refine zgc ?_
   | refine zvd ?_
   | refine zve ?_
   | (refine zvf (fun h => ?_) (fun h => ?_) <;> (replace h := zB h) <;> (try (exfalso; first | exact h | omega)))
    | (refine zfa Tryz.results102 ?_; (try dsimp only))
   | (refine zfb Tryz.results102 ?_; (try dsimp only)))
  exact ⟨rfl, rfl⟩
theorem app_rowsN (lo : Nat) {H0 H : AHeap} {A : AV} {l : List Rw} (hA : SlH H0 2 A (rowsA l)) (hx : Ext H0 H) (h0 : l ≠ []) (hl : l.length < 2 ^ 30) : primL lo H (appendA EZ 68 (.v (.slice none 0 0)) A) = some (.os H.next 0 0 l.length, H.push ⟨47, 2, 0, rowsA l, none⟩, ⟨(rdTr A).rd, 2 ^ H.next, 0⟩) := by
  have := append_new EZ lo (t := 68) (s := .v (.slice none 0 0)) (.inr rfl) app_row (hA.ext hx) (fun e => h0 (rowsA_nil.1 e)) (by rw [rowsA_len]; unfold roomMax; omega)
  rw [rowsA_len] at this; exact this
theorem app_rowsN0 (lo : Nat) {H0 H : AHeap} {A : AV} (hA : SlH H0 2 A (rowsA [])) (hx : Ext H0 H) : primL lo H (appendA EZ 68 (.v (.slice none 0 0)) A) = some (.v (.slice none 0 0), H, rdTr A) := append_new0 EZ lo (.inr rfl) app_row (hA.ext hx)
theorem app_rows0n (lo : Nat) (H : AHeap) (c : List Ce) (b : Bool) (k : Nat) (hk : H.next = k) : primL lo (H.push ⟨47, 2, 0, [[.sl 3 (cesA c), .v (.bool b)]], none⟩) (appendA EZ 68 (.v (.slice none 0 0)) (.os k 0 0 1)) = some (.os (k + 1) 0 0 1, (H.push ⟨47, 2, 0, [[.sl 3 (cesA c), .v (.bool b)]], none⟩).push ⟨47, 2, 0, [[.sl 3 (cesA c), .v (.bool b)]], none⟩, ⟨bitsOf [k], 2 ^ (k + 1), 0⟩) := by
  subst hk
  exact app_one_new EZ lo H app_row (by unfold roomMax; omega) [.sl 3 (cesA c), .v (.bool b)] (.inr rfl)
theorem rdown_run (hS : SP 110 lo H n m e s) (hg : ScG s) : CallE EZ ys lo 80 [.op n 0 0 0] H fun x H' => ∃ m' e', SP 110 lo H' n m' e' s.dn.1 ∧ Fr H H' n m m' ∧ OutS H H' m' x s.dn.2 := by
  have ⟨nl, ml, nn, mn, ne, hb, hm⟩ := hS
  have r0 := hg.r0; have rh := hg.rh; have hlen := hg.len; have h1 := hg.h1; have h2 := hg.h2; have w2 := hg.w2; have w3 := hg.w3
  refine WC.effE rfl ?_
  by_cases hr : s.row + 1 < s.h
  · have e1 : s.dn = ({ s with row := s.row + 1 }, []) := by unfold Sc.dn; rw [if_pos hr]
    refine zvin Tryz.func80 Tryz.ntmps80 ?_
    repeat' (first
     | refine zka ?_
     | refine zkb ?_
     | (apply RKp.op; ((try simp (disch := (first | omega | exact zX | exact zO | fail)) only [hb, hm, nth_rowsA, rowsA_len, rowsA_set, List.length_set, go_sem, Nat.reduceDiv, Nat.reduceMod, Nat.reduceAdd, Nat.reduceSub, Nat.reduceEqDiff, Nat.reduceLeDiff, Nat.reduceLT, Nat.reduceMul, reduceIte, Nat.reducePow, Int.reduceEq]); exact zL); rfl)
     | refine zkc ?_
     | apply RKg.tt
     | apply RKg.ff
     | refine zkd ?_
     | refine zke ?_
     | refine zkf ?_
     | (refine RKg.split (fun h => ?_) (fun h => ?_) <;> (try rw [h]) <;> (replace h := zB h) <;> (try (exfalso; first | exact h | omega)))
     | apply RK.nil
     | apply V.sq
     | apply V.bl
     | apply V.sc
     | apply V.skip
     | apply V.label
     | apply V.ret
     | apply V.exit
     | apply SeqQ.normal
     | apply SeqQ.ret
     | apply SeqQ.exit
     | apply BlockQ.normal
     | apply BlockQ.ret
     | apply BlockQ.here
     | refine zbt ?_
     | apply LoopS.ret
     | apply LoopS.exit
     | apply LoopF.ret
     | apply LoopF.exit
     | apply V.regK
      | refine zva ?_
     | refine zvb ?_
     | refine zgc ?_
     | refine zvd ?_
     | refine zve ?_
     | (refine zvf (fun h => ?_) (fun h => ?_) <;> (replace h := zB h) <;> (try (exfalso; first | exact h | omega)))
      | (refine zfc Tryz.results80 ?_; (try dsimp only)))
    rw [e1]
    exact ⟨m, e, hS.turn { s with row := s.row + 1 } rfl, (Fr.refl H n m).setn _, OutS.nil _ _ _⟩
  · have e1 : s.dn = ({ s with rows := s.rows.tail ++ [(blanks s.w.toNat, false)] }, [s.rows.getD 0 noRw]) := by unfold Sc.dn; rw [if_neg hr]
    have htl : s.rows.tail.length = s.rows.length - 1 := List.length_tail
    have hsl := fun G (x : Ext H G) => hS.sl1 lo x (by omega)
    have hBl := fun ys G => refBlank_D (ys := ys) (lo := lo) (H := G) s.w (by omega) w3
    have hta := hS.tail (Ext.refl H) (by omega)
    by_cases h0 : s.h = 1
    · have e2 : s.rows.tail = [] := List.eq_nil_of_length_eq_zero (by omega)
      rw [e2] at hta
      have hap := fun G (x : Ext H G) => app_rowsN0 lo hta x
      refine zvin Tryz.func80 Tryz.ntmps80 ?_
      repeat' (first
       | refine zka ?_
       | refine zkb ?_
       | (apply RKp.op; ((try simp (disch := (first | omega | exact zX | exact zO | fail)) only [hb, hm, nth_rowsA, rowsA_len, rowsA_set, List.length_set, hsl, hap, app_rows0n lo, Int.toNat_zero, go_sem, Nat.reduceDiv, Nat.reduceMod, Nat.reduceAdd, Nat.reduceSub, Nat.reduceEqDiff, Nat.reduceLeDiff, Nat.reduceLT, Nat.reduceMul, reduceIte, Nat.reducePow, Int.reduceEq]); exact zL); rfl)
       | (apply RKp.callR; (apply hBl <;> (exact zD)); rfl; intro tr htr)
       | refine zkc ?_
       | apply RKg.tt
       | apply RKg.ff
       | refine zkd ?_
       | refine zke ?_
       | refine zkf ?_
       | (refine RKg.split (fun h => ?_) (fun h => ?_) <;> (try rw [h]) <;> (replace h := zB h) <;> (try (exfalso; first | exact h | omega)))
       | apply RK.nil
       | apply V.sq
       | apply V.bl
       | apply V.sc
       | apply V.skip
       | apply V.label
       | apply V.ret
       | apply V.exit
       | apply SeqQ.normal
       | apply SeqQ.ret
       | apply SeqQ.exit
       | apply BlockQ.normal
       | apply BlockQ.ret
       | apply BlockQ.here
       | refine zbt ?_
       | apply LoopS.ret
       | apply LoopS.exit
       | apply LoopF.ret
       | apply LoopF.exit
       | apply V.regK
        | refine zva ?_
       | refine zvb ?_
       | refine zgc ?_
       | refine zvd ?_
       | refine zve ?_
       | (refine zvf (fun h => ?_) (fun h => ?_) <;> (replace h := zB h) <;> (try (exfalso; first | exact h | omega)))
        | (refine zfc Tryz.results80 ?_; (try dsimp only)))
      rw [e1, e2]
      refine ⟨H.next + 1 + 1, 0, ⟨nl, by omega, by (first | omega | (simp only [next_push, next_set, next_empty]; done) | (simp only [next_push, next_set, next_empty]; omega)), by (first | omega | (simp only [next_push, next_set, next_empty]; done) | (simp only [next_push, next_set, next_empty]; omega)), by omega, ?_, ?_⟩, ((((Fr.refl H n m).setn _).push _).push _).push _ |>.re (by omega), OutS.one H.next ?_ ?_ ?_ ?_⟩
      · simp (disch := (first | omega | exact zX | fail)) only [get_set, get_push, next_push, next_set, if_pos', if_neg', if_true, if_false, reduceIte]
        rfl
      · simp (disch := (first | omega | exact zX | fail)) only [get_set, get_push, next_push, next_set, if_pos', if_neg', if_true, if_false, reduceIte]
        rfl
      · (first | omega | (simp only [next_push, next_set, next_empty]; done) | (simp only [next_push, next_set, next_empty]; omega))
      · (first | omega | (simp only [next_push, next_set, next_empty]; done) | (simp only [next_push, next_set, next_empty]; omega))
      · (first | omega | (simp only [next_push, next_set, next_empty]; done) | (simp only [next_push, next_set, next_empty]; omega))
      · simp (disch := (first | omega | exact zX | fail)) only [get_set, get_push, next_push, next_set, if_pos', if_neg', if_true, if_false, reduceIte]
    · have e2 : s.rows.tail ≠ [] := fun h => by rw [h] at htl; simp at htl; omega
      have hap := fun G (x : Ext H G) => app_rowsN lo hta x e2 (by omega)
      refine zvin Tryz.func80 Tryz.ntmps80 ?_
      repeat' (first
       | refine zka ?_
       | refine zkb ?_
       | (apply RKp.op; ((try simp (disch := (first | omega | exact zX | exact zO | fail)) only [hb, hm, nth_rowsA, rowsA_len, rowsA_set, List.length_set, hsl, hap, app_rows1 lo, Int.toNat_zero, go_sem, Nat.reduceDiv, Nat.reduceMod, Nat.reduceAdd, Nat.reduceSub, Nat.reduceEqDiff, Nat.reduceLeDiff, Nat.reduceLT, Nat.reduceMul, reduceIte, Nat.reducePow, Int.reduceEq]); exact zL); rfl)
       | (apply RKp.callR; (apply hBl <;> (exact zD)); rfl; intro tr htr)
       | refine zkc ?_
       | apply RKg.tt
       | apply RKg.ff
       | refine zkd ?_
       | refine zke ?_
       | refine zkf ?_
       | (refine RKg.split (fun h => ?_) (fun h => ?_) <;> (try rw [h]) <;> (replace h := zB h) <;> (try (exfalso; first | exact h | omega)))
       | apply RK.nil
       | apply V.sq
       | apply V.bl
       | apply V.sc
       | apply V.skip
       | apply V.label
       | apply V.ret
       | apply V.exit
       | apply SeqQ.normal
       | apply SeqQ.ret
       | apply SeqQ.exit
       | apply BlockQ.normal
       | apply BlockQ.ret
       | apply BlockQ.here
       | refine zbt ?_
       | apply LoopS.ret
       | apply LoopS.exit
       | apply LoopF.ret
       | apply LoopF.exit
       | apply V.regK
        | refine zva ?_
       | refine zvb ?_
       | refine zgc ?_
       | refine zvd ?_
       | refine zve ?_
       | (refine zvf (fun h => ?_) (fun h => ?_) <;> (replace h := zB h) <;> (try (exfalso; first | exact h | omega)))
        | (refine zfc Tryz.results80 ?_; (try dsimp only)))
      rw [e1]
      refine ⟨H.next + 1, 1, ⟨nl, by omega, by (first | omega | (simp only [next_push, next_set, next_empty]; done) | (simp only [next_push, next_set, next_empty]; omega)), by (first | omega | (simp only [next_push, next_set, next_empty]; done) | (simp only [next_push, next_set, next_empty]; omega)), by omega, ?_, ?_⟩, ((((Fr.refl H n m).setn _).push _).push _).push _ |>.re (by omega), OutS.one H.next ?_ ?_ ?_ ?_⟩
      · simp (disch := (first | omega | exact zX | fail)) only [get_set, get_push, next_push, next_set, if_pos', if_neg', if_true, if_false, reduceIte]
        rw [List.length_append]; rfl
      · simp (disch := (first | omega | exact zX | fail)) only [get_set, get_push, next_push, next_set, if_pos', if_neg', if_true, if_false, reduceIte]
      · (first | omega | (simp only [next_push, next_set, next_empty]; done) | (simp only [next_push, next_set, next_empty]; omega))
      · (first | omega | (simp only [next_push, next_set, next_empty]; done) | (simp only [next_push, next_set, next_empty]; omega))
      · (first | omega | (simp only [next_push, next_set, next_empty]; done) | (simp only [next_push, next_set, next_empty]; omega))
      · simp (disch := (first | omega | exact zX | fail)) only [get_set, get_push, next_push, next_set, if_pos', if_neg', if_true, if_false, reduceIte]
end
end Go.Am
