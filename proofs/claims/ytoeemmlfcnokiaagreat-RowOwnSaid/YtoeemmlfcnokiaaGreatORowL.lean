
/- Rows: blank ones, what is erased; the reference's Set and Erase. -/
import Derived.Test.YtoeemmlfcnokiaaGreatORowK
set_option linter.all false
set_option linter.deprecated false
namespace Go.Am
open Go.Proofs
set_option maxRecDepth 8000
set_option maxHeartbeats 4000000

/-- What Erase is told to do may be done. -/
def eraOk (l : List Ce) (a b : Int) : Prop := rowG l ∧ 0 ≤ a ∧ a ≤ b ∧ b ≤ l.length
instance (l : List Ce) (a b : Int) : Decidable (eraOk l a b) := inferInstanceAs (Decidable (_ ∧ _))
def eraW (l : List Ce) (wr : Bool) (a b : Int) : Bool := wr && decide (a = b ∨ b < l.length)

section
variable {ys : List (Nat × LRec)} {lo : Nat} {H : AHeap} {A B : AV} {l m : List Ce} {wr wr' : Bool}
theorem rowBlank_run (w : Int) (hw : -9223372036854775808 ≤ w ∧ w ≤ 9223372036854775807) : CallRo EO ys lo 28 [.v (.int .i64 w)] H (rowA (.sl 3 (cesA (blanks (min (max w 0) 300).toNat))) false) := by
  refine WC.pureR rfl fun lo' H' hh => ?_
  have hlo := lo_two hh
  have hn : (((min (max w 0) 300).toNat : Nat) : Int) = min (max w 0) 300 := by omega
  have hrep := Repeat_run (ys := []) (lo := lo') (H := (H'.push zblk).push (cblk 0 [blankC])) (H'.next + 1) (min (max w 0) 300).toNat (by simp only [next_push]; omega) (by simp (disch := (first | omega | exact zX | fail)) only [get_set, get_push, next_push, next_set, if_pos', if_neg', if_true, if_false, reduceIte]) (by omega)
  rw [hn] at hrep
  refine zvin Tryz.func28 Tryz.ntmps28 ?_
  repeat' (first
   | refine zka ?_
   | refine zkb ?_
   | (apply RKp.op; ((try simp (disch := (first | omega | exact zX | fail)) only [go_sem, Nat.reduceDiv, Nat.reduceMod, Nat.reduceAdd, Nat.reduceSub, Nat.reduceEqDiff, Nat.reduceLeDiff, Nat.reduceLT, Nat.reduceMul, reduceIte, Nat.reducePow, Int.reduceEq]); exact zL); rfl)
   | (apply RKp.call; (apply Blank_run <;> (exact zD)); rfl)
   | (apply RKp.callR; (apply hrep <;> (exact zD)); rfl; intro tr htr)
   | refine zkc ?_
   | apply RKg.tt
   | apply RKg.ff
   | refine zkd ?_
   | refine zke ?_
   | refine zkf ?_
   | (refine RKg.split (fun h => ?_) (fun h => ?_) <;> (try rw [h]) <;> (replace h := zB h) <;> (try (exfalso; first | exact h | omega)))
   | apply RK.nil
   | apply V.sq
   | apply V.bl
   | apply V.sc
   | apply V.skip
   | apply V.label
   | apply V.ret
   | apply V.exit
   | apply SeqQ.normal
   | apply SeqQ.ret
   | apply SeqQ.exit
   | apply BlockQ.normal
   | apply BlockQ.ret
   | apply BlockQ.here
   | refine zbt ?_
   | apply LoopS.ret
   | apply LoopS.exit
   | apply LoopF.ret
   | apply LoopF.exit
   | apply V.regK
   | refine zvd ?_
   | refine zve ?_
   | (refine zvf (fun h => ?_) (fun h => ?_) <;> (replace h := zB h) <;> (try (exfalso; first | exact h | omega)))
    | (refine FnQ.retB (resc Tryz.results28) (by simp (disch := (first | omega | exact zX | fail)) only [cellR_op, go_sem, Nat.reduceDiv, Nat.reduceMod, Nat.reduceAdd, Nat.reduceSub, Nat.reduceEqDiff, Nat.reduceLeDiff, Nat.reduceLT, Nat.reduceMul, reduceIte, Nat.reducePow, Int.reduceEq]; rfl) ?_; (try dsimp only)))
  rfl
end
end Go.Am
