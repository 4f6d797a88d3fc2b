/- Parts of the proof: KWdA KWdB KWdC. -/
import Derived.Test.YtpaakagaiogknaaGreatKLinA
import Derived.Test.YtpaakagaiogknaaGreatKLinB
set_option linter.all false
set_option linter.deprecated false

namespace Go.Am
variable {oc : Orc} [OrcI oc]
open Go.Proofs
set_option maxRecDepth 8000
set_option maxHeartbeats 8000000
def kindI (r : Int) : Int := if r = 32 then 0 else if (65 ≤ r ∧ r ≤ 90) ∨ (97 ≤ r ∧ r ≤ 122) ∨ (48 ≤ r ∧ r ≤ 57) ∨ r = 95 ∨ 128 ≤ r then 1 else 2
theorem kindI_0 (r : Int) : 0 ≤ kindI r := by
  unfold kindI
  split
  · decide
  · split <;> decide
def kindC (l : List Ce) (i : Nat) : Int := kindI (l.getD i zeroC).r
def begP (l : List Ce) (i : Nat) : Prop := kindC l i ≠ 0 ∧ (i = 0 ∨ kindC l (i - 1) ≠ kindC l i)
def endP (l : List Ce) (i : Nat) : Prop := kindC l i ≠ 0 ∧ (i + 1 = l.length ∨ kindC l (i + 1) ≠ kindC l i)
instance (l : List Ce) (i : Nat) : Decidable (begP l i) := inferInstanceAs (Decidable (_ ∧ _))
instance (l : List Ce) (i : Nat) : Decidable (endP l i) := inferInstanceAs (Decidable (_ ∧ _))
def edgP (last : Bool) (l : List Ce) (i : Nat) : Prop := if last = true then endP l i else begP l i
instance (last : Bool) (l : List Ce) (i : Nat) : Decidable (edgP last l i) := by unfold edgP; split <;> infer_instance
section
variable {ys : List (Nat × LRec)} {lo : Nat} {H : AHeap} {A : AV} {l : List Ce} {es : List (List AV)} {ls : List (List Ce)}
theorem Kind_run (r w a : Int) : CallRo (ELo oc) ys lo 14 [.agg [.v (.int .i32 r), .v (.int .i64 w), .v (.int .i64 a)]] H (.v (.int .i64 (kindI r))) := by
  refine WC.pureR rfl fun lo' H' hh => ?_
  have hlo := lo_two hh
  refine zvin Tryz.func14 Tryz.ntmps14 ?_
  repeat' (first | refine zka ?_ | refine zkb ?_ | (apply RKp.op; ((try simp (disch := (first | omega | exact zX | exact zO | fail)) only [go_sem, Nat.reduceDiv, Nat.reduceMod, Nat.reduceAdd, Nat.reduceSub, Nat.reduceEqDiff, Nat.reduceLeDiff, Nat.reduceLT, Nat.reduceMul, reduceIte, Nat.reducePow, Int.reduceEq]); exact zL); rfl) | refine zkc ?_ | apply RKg.tt | apply RKg.ff | refine zkd ?_ | refine zke ?_ | refine zkf ?_ | (refine RKg.split (fun h => ?_) (fun h => ?_) <;> (try rw [h]) <;> (replace h := zB h) <;> (try (exfalso; first | exact h | omega))) | apply RK.nil | apply V.sq | apply V.bl | apply V.sc | apply V.skip | apply V.label | apply V.ret | apply V.exit | apply SeqQ.normal | apply SeqQ.ret | apply SeqQ.exit | apply BlockQ.normal | apply BlockQ.ret | apply BlockQ.here | refine zbt ?_ | apply LoopS.ret | apply LoopS.exit | apply LoopF.ret | apply LoopF.exit | apply V.regK | refine zvd ?_ | refine zve ?_ | (refine zvf (fun h => ?_) (fun h => ?_) <;> (replace h := zB h) <;> (try (exfalso; first | exact h | omega))) | (refine zfc Tryz.results14 ?_; (try dsimp only)))
  all_goals
    unfold kindI
    first
      | (rw [if_pos (by omega)]; rfl)
      | (rw [if_neg (by omega), if_pos (by omega)]; rfl)
      | (rw [if_neg (by omega), if_neg (by omega)]; rfl)
theorem refKind_run (r w a : Int) : CallRo (ELo oc) ys lo 15 [.agg [.v (.int .i32 r), .v (.int .i64 w), .v (.int .i64 a)]] H (.v (.int .i64 (kindI r))) := by
  refine WC.pureR rfl fun lo' H' hh => ?_
  have hlo := lo_two hh
  refine zvin Tryz.func15 Tryz.ntmps15 ?_
  repeat' (first | refine zka ?_ | refine zkb ?_ | (apply RKp.op; ((try simp (disch := (first | omega | exact zX | exact zO | fail)) only [go_sem, Nat.reduceDiv, Nat.reduceMod, Nat.reduceAdd, Nat.reduceSub, Nat.reduceEqDiff, Nat.reduceLeDiff, Nat.reduceLT, Nat.reduceMul, reduceIte, Nat.reducePow, Int.reduceEq]); exact zL); rfl) | refine zkc ?_ | apply RKg.tt | apply RKg.ff | refine zkd ?_ | refine zke ?_ | refine zkf ?_ | (refine RKg.split (fun h => ?_) (fun h => ?_) <;> (try rw [h]) <;> (replace h := zB h) <;> (try (exfalso; first | exact h | omega))) | apply RK.nil | apply V.sq | apply V.bl | apply V.sc | apply V.skip | apply V.label | apply V.ret | apply V.exit | apply SeqQ.normal | apply SeqQ.ret | apply SeqQ.exit | apply BlockQ.normal | apply BlockQ.ret | apply BlockQ.here | refine zbt ?_ | apply LoopS.ret | apply LoopS.exit | apply LoopF.ret | apply LoopF.exit | apply V.regK | refine zvd ?_ | refine zve ?_ | (refine zvf (fun h => ?_) (fun h => ?_) <;> (replace h := zB h) <;> (try (exfalso; first | exact h | omega))) | (refine zfc Tryz.results15 ?_; (try dsimp only)))
  all_goals
    unfold kindI
    first
      | (rw [if_pos (by omega)]; rfl)
      | (rw [if_neg (by omega), if_pos (by omega)]; rfl)
      | (rw [if_neg (by omega), if_neg (by omega)]; rfl)
theorem begins_run (hA : Sl 3 A (cesA l)) (hl : l.length < 2 ^ 40) (i : Nat) (hi : i < l.length) : CallRo (ELo oc) ys lo 23 [A, .v (.int .i64 i)] H (.v (.bool (decide (begP l i)))) := by
  refine WC.pureR rfl fun lo' H' hh => ?_
  have hlo := lo_two hh
  have lnl : ∀ G, primL lo' G (builtinA (ELo oc) .len #[33] 3 [A]) = some (.v (.int .i64 l.length), G, ⟨0, 0, 0⟩) := fun G => by rw [len_cell lo' (.inl hA)]; rcases hA with rfl | ⟨h0, rfl | rfl⟩ <;> rfl
  have ixl : ∀ G (z : Int), 0 ≤ z → z < l.length → primL lo' G (indexAddrA (ELo oc) 33 A (.v (.int .i64 z))) = some (ixA A (cesA l) z.toNat, G, ⟨0, 0, 0⟩) := fun G z z0 z1 => by rw [ix_cell lo' (.inl hA) .i64 z z0 z1]; rcases hA with rfl | ⟨h0, rfl | rfl⟩ <;> rfl
  have ldl : ∀ G j, j < l.length → primL lo' G (loadA (ELo oc) 26 (ixA A (cesA l) j)) = some (.agg [.v (.int .i32 (l.getD j zeroC).r), .v (.int .i64 (l.getD j zeroC).w), .v (.int .i64 (l.getD j zeroC).a)], G, ⟨0, 0, 0⟩) := fun G j hj => by rw [ld_cell lo' (.inl hA) j hj]; rcases hA with rfl | ⟨h0, rfl | rfl⟩ <;> rfl
  have e1 : ((i : Int) - 1).toNat = i - 1 := by omega
  by_cases h0 : kindC l i = 0
  · have hd : decide (begP l i) = false := decide_eq_false fun z => z.1 h0
    rw [hd]
    unfold kindC at h0
    refine zvin Tryz.func23 Tryz.ntmps23 ?_
    repeat' (first | refine zka ?_ | refine zkb ?_ | (apply RKp.op; ((try simp (disch := (first | omega | exact zX | exact zO | fail)) only [lnl, ixl, ldl, e1, h0, Int.toNat_natCast, go_sem, Nat.reduceDiv, Nat.reduceMod, Nat.reduceAdd, Nat.reduceSub, Nat.reduceEqDiff, Nat.reduceLeDiff, Nat.reduceLT, Nat.reduceMul, reduceIte, Nat.reducePow, Int.reduceEq]); exact zL); rfl) | (apply RKp.callR; (apply Kind_run <;> (exact zD)); rfl; intro tr htr) | refine zkc ?_ | apply RKg.tt | apply RKg.ff | refine zkd ?_ | refine zke ?_ | refine zkf ?_ | (refine RKg.split (fun h => ?_) (fun h => ?_) <;> (try rw [h]) <;> (replace h := zB h) <;> (try (exfalso; first | exact h | omega))) | apply RK.nil | apply V.sq | apply V.bl | apply V.sc | apply V.skip | apply V.label | apply V.ret | apply V.exit | apply SeqQ.normal | apply SeqQ.ret | apply SeqQ.exit | apply BlockQ.normal | apply BlockQ.ret | apply BlockQ.here | refine zbt ?_ | apply LoopS.ret | apply LoopS.exit | apply LoopF.ret | apply LoopF.exit | apply V.regK | refine zva ?_ | refine zvb ?_ | refine zgc ?_ | refine zvd ?_ | refine zve ?_ | (refine zvf (fun h => ?_) (fun h => ?_) <;> (replace h := zB h) <;> (try (exfalso; first | exact h | omega))) | (refine zfc Tryz.results23 ?_; (try dsimp only)))
    all_goals first
      | (exfalso; omega)
      | rfl
      | (exfalso; simp at h; done)
      | trace_state
  · by_cases h1 : i = 0
    · have hd : decide (begP l i) = true := decide_eq_true ⟨h0, .inl h1⟩
      rw [hd]
      unfold kindC at h0
      refine zvin Tryz.func23 Tryz.ntmps23 ?_
      repeat' (first | refine zka ?_ | refine zkb ?_ | (apply RKp.op; ((try simp (disch := (first | omega | exact zX | exact zO | fail)) only [lnl, ixl, ldl, e1, Int.toNat_natCast, go_sem, Nat.reduceDiv, Nat.reduceMod, Nat.reduceAdd, Nat.reduceSub, Nat.reduceEqDiff, Nat.reduceLeDiff, Nat.reduceLT, Nat.reduceMul, reduceIte, Nat.reducePow, Int.reduceEq]); exact zL); rfl) | (apply RKp.callR; (apply Kind_run <;> (exact zD)); rfl; intro tr htr) | refine zkc ?_ | apply RKg.tt | apply RKg.ff | refine zkd ?_ | refine zke ?_ | refine zkf ?_ | (refine RKg.split (fun h => ?_) (fun h => ?_) <;> (try rw [h]) <;> (replace h := zB h) <;> (try (exfalso; first | exact h | omega))) | apply RK.nil | apply V.sq | apply V.bl | apply V.sc | apply V.skip | apply V.label | apply V.ret | apply V.exit | apply SeqQ.normal | apply SeqQ.ret | apply SeqQ.exit | apply BlockQ.normal | apply BlockQ.ret | apply BlockQ.here | refine zbt ?_ | apply LoopS.ret | apply LoopS.exit | apply LoopF.ret | apply LoopF.exit | apply V.regK | refine zva ?_ | refine zvb ?_ | refine zgc ?_ | refine zvd ?_ | refine zve ?_ | (refine zvf (fun h => ?_) (fun h => ?_) <;> (replace h := zB h) <;> (try (exfalso; first | exact h | omega))) | (refine zfc Tryz.results23 ?_; (try dsimp only)))
      all_goals first
        | (exfalso; omega)
        | rfl
        | trace_state
    · by_cases h2 : kindC l (i - 1) = kindC l i
      · have hd : decide (begP l i) = false := decide_eq_false fun z => by rcases z.2 with y | y; exact h1 y; exact y h2
        rw [hd]
        unfold kindC at h0 h2
        refine zvin Tryz.func23 Tryz.ntmps23 ?_
        repeat' (first | refine zka ?_ | refine zkb ?_ | (apply RKp.op; ((try simp (disch := (first | omega | exact zX | exact zO | fail)) only [lnl, ixl, ldl, e1, Int.toNat_natCast, go_sem, Nat.reduceDiv, Nat.reduceMod, Nat.reduceAdd, Nat.reduceSub, Nat.reduceEqDiff, Nat.reduceLeDiff, Nat.reduceLT, Nat.reduceMul, reduceIte, Nat.reducePow, Int.reduceEq]); exact zL); rfl) | (apply RKp.callR; (apply Kind_run <;> (exact zD)); rfl; intro tr htr) | refine zkc ?_ | apply RKg.tt | apply RKg.ff | refine zkd ?_ | refine zke ?_ | refine zkf ?_ | (refine RKg.split (fun h => ?_) (fun h => ?_) <;> (try rw [h]) <;> (replace h := zB h) <;> (try (exfalso; first | exact h | omega))) | apply RK.nil | apply V.sq | apply V.bl | apply V.sc | apply V.skip | apply V.label | apply V.ret | apply V.exit | apply SeqQ.normal | apply SeqQ.ret | apply SeqQ.exit | apply BlockQ.normal | apply BlockQ.ret | apply BlockQ.here | refine zbt ?_ | apply LoopS.ret | apply LoopS.exit | apply LoopF.ret | apply LoopF.exit | apply V.regK | refine zva ?_ | refine zvb ?_ | refine zgc ?_ | refine zvd ?_ | refine zve ?_ | (refine zvf (fun h => ?_) (fun h => ?_) <;> (replace h := zB h) <;> (try (exfalso; first | exact h | omega))) | (refine zfc Tryz.results23 ?_; (try dsimp only)))
        all_goals first
          | (exfalso; omega)
          | rfl
          | (rw [frzR_v, decide_eq_true h2]; rfl)
          | (rw [if_neg (by decide), frzR_v, decide_eq_true h2]; rfl)
          | trace_state
      · have hd : decide (begP l i) = true := decide_eq_true ⟨h0, .inr h2⟩
        rw [hd]
        unfold kindC at h0 h2
        refine zvin Tryz.func23 Tryz.ntmps23 ?_
        repeat' (first | refine zka ?_ | refine zkb ?_ | (apply RKp.op; ((try simp (disch := (first | omega | exact zX | exact zO | fail)) only [lnl, ixl, ldl, e1, Int.toNat_natCast, go_sem, Nat.reduceDiv, Nat.reduceMod, Nat.reduceAdd, Nat.reduceSub, Nat.reduceEqDiff, Nat.reduceLeDiff, Nat.reduceLT, Nat.reduceMul, reduceIte, Nat.reducePow, Int.reduceEq]); exact zL); rfl) | (apply RKp.callR; (apply Kind_run <;> (exact zD)); rfl; intro tr htr) | refine zkc ?_ | apply RKg.tt | apply RKg.ff | refine zkd ?_ | refine zke ?_ | refine zkf ?_ | (refine RKg.split (fun h => ?_) (fun h => ?_) <;> (try rw [h]) <;> (replace h := zB h) <;> (try (exfalso; first | exact h | omega))) | apply RK.nil | apply V.sq | apply V.bl | apply V.sc | apply V.skip | apply V.label | apply V.ret | apply V.exit | apply SeqQ.normal | apply SeqQ.ret | apply SeqQ.exit | apply BlockQ.normal | apply BlockQ.ret | apply BlockQ.here | refine zbt ?_ | apply LoopS.ret | apply LoopS.exit | apply LoopF.ret | apply LoopF.exit | apply V.regK | refine zva ?_ | refine zvb ?_ | refine zgc ?_ | refine zvd ?_ | refine zve ?_ | (refine zvf (fun h => ?_) (fun h => ?_) <;> (replace h := zB h) <;> (try (exfalso; first | exact h | omega))) | (refine zfc Tryz.results23 ?_; (try dsimp only)))
        all_goals first
          | (exfalso; omega)
          | rfl
          | (rw [frzR_v, decide_eq_false h2]; rfl)
          | (rw [if_neg (by decide), frzR_v, decide_eq_false h2]; rfl)
          | trace_state
theorem ends_run (hA : Sl 3 A (cesA l)) (hl : l.length < 2 ^ 40) (i : Nat) (hi : i < l.length) : CallRo (ELo oc) ys lo 26 [A, .v (.int .i64 i)] H (.v (.bool (decide (endP l i)))) := by
  refine WC.pureR rfl fun lo' H' hh => ?_
  have hlo := lo_two hh
  have lnl : ∀ G, primL lo' G (builtinA (ELo oc) .len #[33] 3 [A]) = some (.v (.int .i64 l.length), G, ⟨0, 0, 0⟩) := fun G => by rw [len_cell lo' (.inl hA)]; rcases hA with rfl | ⟨h0, rfl | rfl⟩ <;> rfl
  have ixl : ∀ G (z : Int), 0 ≤ z → z < l.length → primL lo' G (indexAddrA (ELo oc) 33 A (.v (.int .i64 z))) = some (ixA A (cesA l) z.toNat, G, ⟨0, 0, 0⟩) := fun G z z0 z1 => by rw [ix_cell lo' (.inl hA) .i64 z z0 z1]; rcases hA with rfl | ⟨h0, rfl | rfl⟩ <;> rfl
  have ldl : ∀ G j, j < l.length → primL lo' G (loadA (ELo oc) 26 (ixA A (cesA l) j)) = some (.agg [.v (.int .i32 (l.getD j zeroC).r), .v (.int .i64 (l.getD j zeroC).w), .v (.int .i64 (l.getD j zeroC).a)], G, ⟨0, 0, 0⟩) := fun G j hj => by rw [ld_cell lo' (.inl hA) j hj]; rcases hA with rfl | ⟨h0, rfl | rfl⟩ <;> rfl
  have e1 : ((i : Int) - 1).toNat = i - 1 := by omega
  have e2 : ((i : Int) + 1).toNat = i + 1 := by omega
  have hk0 := kindI_0 (l.getD i zeroC).r
  by_cases h0 : kindC l i = 0
  · have hd : decide (endP l i) = false := decide_eq_false fun z => z.1 h0
    rw [hd]
    unfold kindC at h0
    refine zvin Tryz.func26 Tryz.ntmps26 ?_
    repeat' (first | refine zka ?_ | refine zkb ?_ | (apply RKp.op; ((try simp (disch := (first | omega | exact zX | exact zO | fail)) only [lnl, ixl, ldl, e1, e2, Int.toNat_natCast, go_sem, Nat.reduceDiv, Nat.reduceMod, Nat.reduceAdd, Nat.reduceSub, Nat.reduceEqDiff, Nat.reduceLeDiff, Nat.reduceLT, Nat.reduceMul, reduceIte, Nat.reducePow, Int.reduceEq]); exact zL); rfl) | (apply RKp.callR; (apply Kind_run <;> (exact zD)); rfl; intro tr htr) | refine zkc ?_ | apply RKg.tt | apply RKg.ff | refine zkd ?_ | refine zke ?_ | refine zkf ?_ | (refine RKg.split (fun h => ?_) (fun h => ?_) <;> (try rw [h]) <;> (replace h := zB h) <;> (try (exfalso; first | exact h | omega))) | apply RK.nil | apply V.sq | apply V.bl | apply V.sc | apply V.skip | apply V.label | apply V.ret | apply V.exit | apply SeqQ.normal | apply SeqQ.ret | apply SeqQ.exit | apply BlockQ.normal | apply BlockQ.ret | apply BlockQ.here | refine zbt ?_ | apply LoopS.ret | apply LoopS.exit | apply LoopF.ret | apply LoopF.exit | apply V.regK | refine zva ?_ | refine zvb ?_ | refine zgc ?_ | refine zvd ?_ | refine zve ?_ | (refine zvf (fun h => ?_) (fun h => ?_) <;> (replace h := zB h) <;> (try (exfalso; first | exact h | omega))) | (refine zfc Tryz.results26 ?_; (try dsimp only)))
    all_goals first
      | (exfalso; omega)
      | rfl
      | trace_state
  · by_cases h1 : i + 1 = l.length
    · have hd : decide (endP l i) = true := decide_eq_true ⟨h0, .inl h1⟩
      rw [hd]
      unfold kindC at h0
      refine zvin Tryz.func26 Tryz.ntmps26 ?_
      repeat' (first | refine zka ?_ | refine zkb ?_ | (apply RKp.op; ((try simp (disch := (first | omega | exact zX | exact zO | fail)) only [lnl, ixl, ldl, e1, e2, Int.toNat_natCast, go_sem, Nat.reduceDiv, Nat.reduceMod, Nat.reduceAdd, Nat.reduceSub, Nat.reduceEqDiff, Nat.reduceLeDiff, Nat.reduceLT, Nat.reduceMul, reduceIte, Nat.reducePow, Int.reduceEq]); exact zL); rfl) | (apply RKp.callR; (apply Kind_run <;> (exact zD)); rfl; intro tr htr) | refine zkc ?_ | apply RKg.tt | apply RKg.ff | refine zkd ?_ | refine zke ?_ | refine zkf ?_ | (refine RKg.split (fun h => ?_) (fun h => ?_) <;> (try rw [h]) <;> (replace h := zB h) <;> (try (exfalso; first | exact h | omega))) | apply RK.nil | apply V.sq | apply V.bl | apply V.sc | apply V.skip | apply V.label | apply V.ret | apply V.exit | apply SeqQ.normal | apply SeqQ.ret | apply SeqQ.exit | apply BlockQ.normal | apply BlockQ.ret | apply BlockQ.here | refine zbt ?_ | apply LoopS.ret | apply LoopS.exit | apply LoopF.ret | apply LoopF.exit | apply V.regK | refine zva ?_ | refine zvb ?_ | refine zgc ?_ | refine zvd ?_ | refine zve ?_ | (refine zvf (fun h => ?_) (fun h => ?_) <;> (replace h := zB h) <;> (try (exfalso; first | exact h | omega))) | (refine zfc Tryz.results26 ?_; (try dsimp only)))
      all_goals first
        | (exfalso; omega)
        | rfl
        | trace_state
    · by_cases h2 : kindC l (i + 1) = kindC l i
      · have hd : decide (endP l i) = false := decide_eq_false fun z => by rcases z.2 with y | y; exact h1 y; exact y h2
        rw [hd]
        unfold kindC at h0 h2
        refine zvin Tryz.func26 Tryz.ntmps26 ?_
        repeat' (first | refine zka ?_ | refine zkb ?_ | (apply RKp.op; ((try simp (disch := (first | omega | exact zX | exact zO | fail)) only [lnl, ixl, ldl, e1, e2, Int.toNat_natCast, go_sem, Nat.reduceDiv, Nat.reduceMod, Nat.reduceAdd, Nat.reduceSub, Nat.reduceEqDiff, Nat.reduceLeDiff, Nat.reduceLT, Nat.reduceMul, reduceIte, Nat.reducePow, Int.reduceEq]); exact zL); rfl) | (apply RKp.callR; (apply Kind_run <;> (exact zD)); rfl; intro tr htr) | refine zkc ?_ | apply RKg.tt | apply RKg.ff | refine zkd ?_ | refine zke ?_ | refine zkf ?_ | (refine RKg.split (fun h => ?_) (fun h => ?_) <;> (try rw [h]) <;> (replace h := zB h) <;> (try (exfalso; first | exact h | omega))) | apply RK.nil | apply V.sq | apply V.bl | apply V.sc | apply V.skip | apply V.label | apply V.ret | apply V.exit | apply SeqQ.normal | apply SeqQ.ret | apply SeqQ.exit | apply BlockQ.normal | apply BlockQ.ret | apply BlockQ.here | refine zbt ?_ | apply LoopS.ret | apply LoopS.exit | apply LoopF.ret | apply LoopF.exit | apply V.regK | refine zva ?_ | refine zvb ?_ | refine zgc ?_ | refine zvd ?_ | refine zve ?_ | (refine zvf (fun h => ?_) (fun h => ?_) <;> (replace h := zB h) <;> (try (exfalso; first | exact h | omega))) | (refine zfc Tryz.results26 ?_; (try dsimp only)))
        all_goals first
          | (exfalso; omega)
          | rfl
          | (rw [frzR_v, decide_eq_true h2]; rfl)
          | (rw [if_neg (by decide), frzR_v, decide_eq_true h2]; rfl)
          | trace_state
      · have hd : decide (endP l i) = true := decide_eq_true ⟨h0, .inr h2⟩
        rw [hd]
        unfold kindC at h0 h2
        refine zvin Tryz.func26 Tryz.ntmps26 ?_
        repeat' (first | refine zka ?_ | refine zkb ?_ | (apply RKp.op; ((try simp (disch := (first | omega | exact zX | exact zO | fail)) only [lnl, ixl, ldl, e1, e2, Int.toNat_natCast, go_sem, Nat.reduceDiv, Nat.reduceMod, Nat.reduceAdd, Nat.reduceSub, Nat.reduceEqDiff, Nat.reduceLeDiff, Nat.reduceLT, Nat.reduceMul, reduceIte, Nat.reducePow, Int.reduceEq]); exact zL); rfl) | (apply RKp.callR; (apply Kind_run <;> (exact zD)); rfl; intro tr htr) | refine zkc ?_ | apply RKg.tt | apply RKg.ff | refine zkd ?_ | refine zke ?_ | refine zkf ?_ | (refine RKg.split (fun h => ?_) (fun h => ?_) <;> (try rw [h]) <;> (replace h := zB h) <;> (try (exfalso; first | exact h | omega))) | apply RK.nil | apply V.sq | apply V.bl | apply V.sc | apply V.skip | apply V.label | apply V.ret | apply V.exit | apply SeqQ.normal | apply SeqQ.ret | apply SeqQ.exit | apply BlockQ.normal | apply BlockQ.ret | apply BlockQ.here | refine zbt ?_ | apply LoopS.ret | apply LoopS.exit | apply LoopF.ret | apply LoopF.exit | apply V.regK | refine zva ?_ | refine zvb ?_ | refine zgc ?_ | refine zvd ?_ | refine zve ?_ | (refine zvf (fun h => ?_) (fun h => ?_) <;> (replace h := zB h) <;> (try (exfalso; first | exact h | omega))) | (refine zfc Tryz.results26 ?_; (try dsimp only)))
        all_goals first
          | (exfalso; omega)
          | rfl
          | (rw [frzR_v, decide_eq_false h2]; rfl)
          | (rw [if_neg (by decide), frzR_v, decide_eq_false h2]; rfl)
          | trace_state
theorem edgeB_run (hA : Sl 3 A (cesA l)) (hl : l.length < 2 ^ 40) (i : Nat) (hi : i < l.length) : CallRo (ELo oc) ys lo 24 [A, .v (.int .i64 i), .v (.bool false)] H (.v (.bool (decide (begP l i)))) := by
  refine WC.pureR rfl fun lo' H' hh => ?_
  have hlo := lo_two hh
  have lnl : ∀ G, primL lo' G (builtinA (ELo oc) .len #[33] 3 [A]) = some (.v (.int .i64 l.length), G, ⟨0, 0, 0⟩) := fun G => by rw [len_cell lo' (.inl hA)]; rcases hA with rfl | ⟨h0, rfl | rfl⟩ <;> rfl
  have ixl : ∀ G (z : Int), 0 ≤ z → z < l.length → primL lo' G (indexAddrA (ELo oc) 33 A (.v (.int .i64 z))) = some (ixA A (cesA l) z.toNat, G, ⟨0, 0, 0⟩) := fun G z z0 z1 => by rw [ix_cell lo' (.inl hA) .i64 z z0 z1]; rcases hA with rfl | ⟨h0, rfl | rfl⟩ <;> rfl
  have ldl : ∀ G j, j < l.length → primL lo' G (loadA (ELo oc) 26 (ixA A (cesA l) j)) = some (.agg [.v (.int .i32 (l.getD j zeroC).r), .v (.int .i64 (l.getD j zeroC).w), .v (.int .i64 (l.getD j zeroC).a)], G, ⟨0, 0, 0⟩) := fun G j hj => by rw [ld_cell lo' (.inl hA) j hj]; rcases hA with rfl | ⟨h0, rfl | rfl⟩ <;> rfl
  have e1 : ((i : Int) - 1).toNat = i - 1 := by omega
  have e2 : ((i : Int) + 1).toNat = i + 1 := by omega
  have hk0 := kindI_0 (l.getD i zeroC).r
  by_cases h0 : kindC l i = 0
  · have hd : decide (begP l i) = false := decide_eq_false fun z => z.1 h0
    rw [hd]
    unfold kindC at h0
    refine zvin Tryz.func24 Tryz.ntmps24 ?_
    repeat' (first | refine zka ?_ | refine zkb ?_ | (apply RKp.op; ((try simp (disch := (first | omega | exact zX | exact zO | fail)) only [lnl, ixl, ldl, e1, e2, Int.toNat_natCast, go_sem, Nat.reduceDiv, Nat.reduceMod, Nat.reduceAdd, Nat.reduceSub, Nat.reduceEqDiff, Nat.reduceLeDiff, Nat.reduceLT, Nat.reduceMul, reduceIte, Nat.reducePow, Int.reduceEq]); exact zL); rfl) | (apply RKp.callR; (apply refKind_run <;> (exact zD)); rfl; intro tr htr) | refine zkc ?_ | apply RKg.tt | apply RKg.ff | refine zkd ?_ | refine zke ?_ | refine zkf ?_ | (refine RKg.split (fun h => ?_) (fun h => ?_) <;> (try rw [h]) <;> (replace h := zB h) <;> (try (exfalso; first | exact h | omega))) | apply RK.nil | apply V.sq | apply V.bl | apply V.sc | apply V.skip | apply V.label | apply V.ret | apply V.exit | apply SeqQ.normal | apply SeqQ.ret | apply SeqQ.exit | apply BlockQ.normal | apply BlockQ.ret | apply BlockQ.here | refine zbt ?_ | apply LoopS.ret | apply LoopS.exit | apply LoopF.ret | apply LoopF.exit | apply V.regK | refine zva ?_ | refine zvb ?_ | refine zgc ?_ | refine zvd ?_ | refine zve ?_ | (refine zvf (fun h => ?_) (fun h => ?_) <;> (replace h := zB h) <;> (try (exfalso; first | exact h | omega))) | (refine zfc Tryz.results24 ?_; (try dsimp only)))
    all_goals first
      | (exfalso; omega)
      | rfl
      | trace_state
  · by_cases h1 : i = 0
    · have hd : decide (begP l i) = true := decide_eq_true ⟨h0, .inl h1⟩
      rw [hd]
      unfold kindC at h0
      refine zvin Tryz.func24 Tryz.ntmps24 ?_
      repeat' (first | refine zka ?_ | refine zkb ?_ | (apply RKp.op; ((try simp (disch := (first | omega | exact zX | exact zO | fail)) only [lnl, ixl, ldl, e1, e2, Int.toNat_natCast, go_sem, Nat.reduceDiv, Nat.reduceMod, Nat.reduceAdd, Nat.reduceSub, Nat.reduceEqDiff, Nat.reduceLeDiff, Nat.reduceLT, Nat.reduceMul, reduceIte, Nat.reducePow, Int.reduceEq]); exact zL); rfl) | (apply RKp.callR; (apply refKind_run <;> (exact zD)); rfl; intro tr htr) | refine zkc ?_ | apply RKg.tt | apply RKg.ff | refine zkd ?_ | refine zke ?_ | refine zkf ?_ | (refine RKg.split (fun h => ?_) (fun h => ?_) <;> (try rw [h]) <;> (replace h := zB h) <;> (try (exfalso; first | exact h | omega))) | apply RK.nil | apply V.sq | apply V.bl | apply V.sc | apply V.skip | apply V.label | apply V.ret | apply V.exit | apply SeqQ.normal | apply SeqQ.ret | apply SeqQ.exit | apply BlockQ.normal | apply BlockQ.ret | apply BlockQ.here | refine zbt ?_ | apply LoopS.ret | apply LoopS.exit | apply LoopF.ret | apply LoopF.exit | apply V.regK | refine zva ?_ | refine zvb ?_ | refine zgc ?_ | refine zvd ?_ | refine zve ?_ | (refine zvf (fun h => ?_) (fun h => ?_) <;> (replace h := zB h) <;> (try (exfalso; first | exact h | omega))) | (refine zfc Tryz.results24 ?_; (try dsimp only)))
      all_goals first
        | (exfalso; omega)
        | rfl
        | trace_state
    · by_cases h2 : kindC l (i - 1) = kindC l i
      · have hd : decide (begP l i) = false := decide_eq_false fun z => by rcases z.2 with y | y; exact h1 y; exact y h2
        rw [hd]
        unfold kindC at h0 h2
        refine zvin Tryz.func24 Tryz.ntmps24 ?_
        repeat' (first | refine zka ?_ | refine zkb ?_ | (apply RKp.op; ((try simp (disch := (first | omega | exact zX | exact zO | fail)) only [lnl, ixl, ldl, e1, e2, Int.toNat_natCast, go_sem, Nat.reduceDiv, Nat.reduceMod, Nat.reduceAdd, Nat.reduceSub, Nat.reduceEqDiff, Nat.reduceLeDiff, Nat.reduceLT, Nat.reduceMul, reduceIte, Nat.reducePow, Int.reduceEq]); exact zL); rfl) | (apply RKp.callR; (apply refKind_run <;> (exact zD)); rfl; intro tr htr) | refine zkc ?_ | apply RKg.tt | apply RKg.ff | refine zkd ?_ | refine zke ?_ | refine zkf ?_ | (refine RKg.split (fun h => ?_) (fun h => ?_) <;> (try rw [h]) <;> (replace h := zB h) <;> (try (exfalso; first | exact h | omega))) | apply RK.nil | apply V.sq | apply V.bl | apply V.sc | apply V.skip | apply V.label | apply V.ret | apply V.exit | apply SeqQ.normal | apply SeqQ.ret | apply SeqQ.exit | apply BlockQ.normal | apply BlockQ.ret | apply BlockQ.here | refine zbt ?_ | apply LoopS.ret | apply LoopS.exit | apply LoopF.ret | apply LoopF.exit | apply V.regK | refine zva ?_ | refine zvb ?_ | refine zgc ?_ | refine zvd ?_ | refine zve ?_ | (refine zvf (fun h => ?_) (fun h => ?_) <;> (replace h := zB h) <;> (try (exfalso; first | exact h | omega))) | (refine zfc Tryz.results24 ?_; (try dsimp only)))
        all_goals first
          | (exfalso; omega)
          | rfl
          | (rw [frzR_v, decide_eq_true h2]; rfl)
          | (rw [if_neg (by decide), frzR_v, decide_eq_true h2]; rfl)
          | trace_state
      · have hd : decide (begP l i) = true := decide_eq_true ⟨h0, .inr h2⟩
        rw [hd]
        unfold kindC at h0 h2
        refine zvin Tryz.func24 Tryz.ntmps24 ?_
        repeat' (first | refine zka ?_ | refine zkb ?_ | (apply RKp.op; ((try simp (disch := (first | omega | exact zX | exact zO | fail)) only [lnl, ixl, ldl, e1, e2, Int.toNat_natCast, go_sem, Nat.reduceDiv, Nat.reduceMod, Nat.reduceAdd, Nat.reduceSub, Nat.reduceEqDiff, Nat.reduceLeDiff, Nat.reduceLT, Nat.reduceMul, reduceIte, Nat.reducePow, Int.reduceEq]); exact zL); rfl) | (apply RKp.callR; (apply refKind_run <;> (exact zD)); rfl; intro tr htr) | refine zkc ?_ | apply RKg.tt | apply RKg.ff | refine zkd ?_ | refine zke ?_ | refine zkf ?_ | (refine RKg.split (fun h => ?_) (fun h => ?_) <;> (try rw [h]) <;> (replace h := zB h) <;> (try (exfalso; first | exact h | omega))) | apply RK.nil | apply V.sq | apply V.bl | apply V.sc | apply V.skip | apply V.label | apply V.ret | apply V.exit | apply SeqQ.normal | apply SeqQ.ret | apply SeqQ.exit | apply BlockQ.normal | apply BlockQ.ret | apply BlockQ.here | refine zbt ?_ | apply LoopS.ret | apply LoopS.exit | apply LoopF.ret | apply LoopF.exit | apply V.regK | refine zva ?_ | refine zvb ?_ | refine zgc ?_ | refine zvd ?_ | refine zve ?_ | (refine zvf (fun h => ?_) (fun h => ?_) <;> (replace h := zB h) <;> (try (exfalso; first | exact h | omega))) | (refine zfc Tryz.results24 ?_; (try dsimp only)))
        all_goals first
          | (exfalso; omega)
          | rfl
          | (rw [frzR_v, decide_eq_false h2]; rfl)
          | (rw [if_neg (by decide), frzR_v, decide_eq_false h2]; rfl)
          | trace_state
theorem edgeE_run (hA : Sl 3 A (cesA l)) (hl : l.length < 2 ^ 40) (i : Nat) (hi : i < l.length) : CallRo (ELo oc) ys lo 24 [A, .v (.int .i64 i), .v (.bool true)] H (.v (.bool (decide (endP l i)))) := by
  refine WC.pureR rfl fun lo' H' hh => ?_
  have hlo := lo_two hh
  have lnl : ∀ G, primL lo' G (builtinA (ELo oc) .len #[33] 3 [A]) = some (.v (.int .i64 l.length), G, ⟨0, 0, 0⟩) := fun G => by rw [len_cell lo' (.inl hA)]; rcases hA with rfl | ⟨h0, rfl | rfl⟩ <;> rfl
  have ixl : ∀ G (z : Int), 0 ≤ z → z < l.length → primL lo' G (indexAddrA (ELo oc) 33 A (.v (.int .i64 z))) = some (ixA A (cesA l) z.toNat, G, ⟨0, 0, 0⟩) := fun G z z0 z1 => by rw [ix_cell lo' (.inl hA) .i64 z z0 z1]; rcases hA with rfl | ⟨h0, rfl | rfl⟩ <;> rfl
  have ldl : ∀ G j, j < l.length → primL lo' G (loadA (ELo oc) 26 (ixA A (cesA l) j)) = some (.agg [.v (.int .i32 (l.getD j zeroC).r), .v (.int .i64 (l.getD j zeroC).w), .v (.int .i64 (l.getD j zeroC).a)], G, ⟨0, 0, 0⟩) := fun G j hj => by rw [ld_cell lo' (.inl hA) j hj]; rcases hA with rfl | ⟨h0, rfl | rfl⟩ <;> rfl
  have e1 : ((i : Int) - 1).toNat = i - 1 := by omega
  have e2 : ((i : Int) + 1).toNat = i + 1 := by omega
  have hk0 := kindI_0 (l.getD i zeroC).r
  by_cases h0 : kindC l i = 0
  · have hd : decide (endP l i) = false := decide_eq_false fun z => z.1 h0
    rw [hd]
    unfold kindC at h0
    refine zvin Tryz.func24 Tryz.ntmps24 ?_
    repeat' (first | refine zka ?_ | refine zkb ?_ | (apply RKp.op; ((try simp (disch := (first | omega | exact zX | exact zO | fail)) only [lnl, ixl, ldl, e1, e2, Int.toNat_natCast, go_sem, Nat.reduceDiv, Nat.reduceMod, Nat.reduceAdd, Nat.reduceSub, Nat.reduceEqDiff, Nat.reduceLeDiff, Nat.reduceLT, Nat.reduceMul, reduceIte, Nat.reducePow, Int.reduceEq]); exact zL); rfl) | (apply RKp.callR; (apply refKind_run <;> (exact zD)); rfl; intro tr htr) | refine zkc ?_ | apply RKg.tt | apply RKg.ff | refine zkd ?_ | refine zke ?_ | refine zkf ?_ | (refine RKg.split (fun h => ?_) (fun h => ?_) <;> (try rw [h]) <;> (replace h := zB h) <;> (try (exfalso; first | exact h | omega))) | apply RK.nil | apply V.sq | apply V.bl | apply V.sc | apply V.skip | apply V.label | apply V.ret | apply V.exit | apply SeqQ.normal | apply SeqQ.ret | apply SeqQ.exit | apply BlockQ.normal | apply BlockQ.ret | apply BlockQ.here | refine zbt ?_ | apply LoopS.ret | apply LoopS.exit | apply LoopF.ret | apply LoopF.exit | apply V.regK | refine zva ?_ | refine zvb ?_ | refine zgc ?_ | refine zvd ?_ | refine zve ?_ | (refine zvf (fun h => ?_) (fun h => ?_) <;> (replace h := zB h) <;> (try (exfalso; first | exact h | omega))) | (refine zfc Tryz.results24 ?_; (try dsimp only)))
    all_goals first
      | (exfalso; omega)
      | rfl
      | trace_state
  · by_cases h1 : i + 1 = l.length
    · have hd : decide (endP l i) = true := decide_eq_true ⟨h0, .inl h1⟩
      rw [hd]
      unfold kindC at h0
      refine zvin Tryz.func24 Tryz.ntmps24 ?_
      repeat' (first | refine zka ?_ | refine zkb ?_ | (apply RKp.op; ((try simp (disch := (first | omega | exact zX | exact zO | fail)) only [lnl, ixl, ldl, e1, e2, Int.toNat_natCast, go_sem, Nat.reduceDiv, Nat.reduceMod, Nat.reduceAdd, Nat.reduceSub, Nat.reduceEqDiff, Nat.reduceLeDiff, Nat.reduceLT, Nat.reduceMul, reduceIte, Nat.reducePow, Int.reduceEq]); exact zL); rfl) | (apply RKp.callR; (apply refKind_run <;> (exact zD)); rfl; intro tr htr) | refine zkc ?_ | apply RKg.tt | apply RKg.ff | refine zkd ?_ | refine zke ?_ | refine zkf ?_ | (refine RKg.split (fun h => ?_) (fun h => ?_) <;> (try rw [h]) <;> (replace h := zB h) <;> (try (exfalso; first | exact h | omega))) | apply RK.nil | apply V.sq | apply V.bl | apply V.sc | apply V.skip | apply V.label | apply V.ret | apply V.exit | apply SeqQ.normal | apply SeqQ.ret | apply SeqQ.exit | apply BlockQ.normal | apply BlockQ.ret | apply BlockQ.here | refine zbt ?_ | apply LoopS.ret | apply LoopS.exit | apply LoopF.ret | apply LoopF.exit | apply V.regK | refine zva ?_ | refine zvb ?_ | refine zgc ?_ | refine zvd ?_ | refine zve ?_ | (refine zvf (fun h => ?_) (fun h => ?_) <;> (replace h := zB h) <;> (try (exfalso; first | exact h | omega))) | (refine zfc Tryz.results24 ?_; (try dsimp only)))
      all_goals first
        | (exfalso; omega)
        | rfl
        | trace_state
    · by_cases h2 : kindC l (i + 1) = kindC l i
      · have hd : decide (endP l i) = false := decide_eq_false fun z => by rcases z.2 with y | y; exact h1 y; exact y h2
        rw [hd]
        unfold kindC at h0 h2
        refine zvin Tryz.func24 Tryz.ntmps24 ?_
        repeat' (first | refine zka ?_ | refine zkb ?_ | (apply RKp.op; ((try simp (disch := (first | omega | exact zX | exact zO | fail)) only [lnl, ixl, ldl, e1, e2, Int.toNat_natCast, go_sem, Nat.reduceDiv, Nat.reduceMod, Nat.reduceAdd, Nat.reduceSub, Nat.reduceEqDiff, Nat.reduceLeDiff, Nat.reduceLT, Nat.reduceMul, reduceIte, Nat.reducePow, Int.reduceEq]); exact zL); rfl) | (apply RKp.callR; (apply refKind_run <;> (exact zD)); rfl; intro tr htr) | refine zkc ?_ | apply RKg.tt | apply RKg.ff | refine zkd ?_ | refine zke ?_ | refine zkf ?_ | (refine RKg.split (fun h => ?_) (fun h => ?_) <;> (try rw [h]) <;> (replace h := zB h) <;> (try (exfalso; first | exact h | omega))) | apply RK.nil | apply V.sq | apply V.bl | apply V.sc | apply V.skip | apply V.label | apply V.ret | apply V.exit | apply SeqQ.normal | apply SeqQ.ret | apply SeqQ.exit | apply BlockQ.normal | apply BlockQ.ret | apply BlockQ.here | refine zbt ?_ | apply LoopS.ret | apply LoopS.exit | apply LoopF.ret | apply LoopF.exit | apply V.regK | refine zva ?_ | refine zvb ?_ | refine zgc ?_ | refine zvd ?_ | refine zve ?_ | (refine zvf (fun h => ?_) (fun h => ?_) <;> (replace h := zB h) <;> (try (exfalso; first | exact h | omega))) | (refine zfc Tryz.results24 ?_; (try dsimp only)))
        all_goals first
          | (exfalso; omega)
          | rfl
          | (rw [frzR_v, decide_eq_true h2]; rfl)
          | (rw [if_neg (by decide), frzR_v, decide_eq_true h2]; rfl)
          | trace_state
      · have hd : decide (endP l i) = true := decide_eq_true ⟨h0, .inr h2⟩
        rw [hd]
        unfold kindC at h0 h2
        refine zvin Tryz.func24 Tryz.ntmps24 ?_
        repeat' (first | refine zka ?_ | refine zkb ?_ | (apply RKp.op; ((try simp (disch := (first | omega | exact zX | exact zO | fail)) only [lnl, ixl, ldl, e1, e2, Int.toNat_natCast, go_sem, Nat.reduceDiv, Nat.reduceMod, Nat.reduceAdd, Nat.reduceSub, Nat.reduceEqDiff, Nat.reduceLeDiff, Nat.reduceLT, Nat.reduceMul, reduceIte, Nat.reducePow, Int.reduceEq]); exact zL); rfl) | (apply RKp.callR; (apply refKind_run <;> (exact zD)); rfl; intro tr htr) | refine zkc ?_ | apply RKg.tt | apply RKg.ff | refine zkd ?_ | refine zke ?_ | refine zkf ?_ | (refine RKg.split (fun h => ?_) (fun h => ?_) <;> (try rw [h]) <;> (replace h := zB h) <;> (try (exfalso; first | exact h | omega))) | apply RK.nil | apply V.sq | apply V.bl | apply V.sc | apply V.skip | apply V.label | apply V.ret | apply V.exit | apply SeqQ.normal | apply SeqQ.ret | apply SeqQ.exit | apply BlockQ.normal | apply BlockQ.ret | apply BlockQ.here | refine zbt ?_ | apply LoopS.ret | apply LoopS.exit | apply LoopF.ret | apply LoopF.exit | apply V.regK | refine zva ?_ | refine zvb ?_ | refine zgc ?_ | refine zvd ?_ | refine zve ?_ | (refine zvf (fun h => ?_) (fun h => ?_) <;> (replace h := zB h) <;> (try (exfalso; first | exact h | omega))) | (refine zfc Tryz.results24 ?_; (try dsimp only)))
        all_goals first
          | (exfalso; omega)
          | rfl
          | (rw [frzR_v, decide_eq_false h2]; rfl)
          | (rw [if_neg (by decide), frzR_v, decide_eq_false h2]; rfl)
          | trace_state
theorem before_run (a b c d e f : Int) : CallRo (ELo oc) ys lo 25 [.agg [.v (.int .i64 a), .v (.int .i64 b), .v (.int .i64 c)], .agg [.v (.int .i64 d), .v (.int .i64 e), .v (.int .i64 f)]] H (.v (.bool (decide (a < d ∨ a = d ∧ b < e)))) := by
  refine WC.pureR rfl fun lo' H' hh => ?_
  have hlo := lo_two hh
  refine zvin Tryz.func25 Tryz.ntmps25 ?_
  repeat' (first | refine zka ?_ | refine zkb ?_ | (apply RKp.op; ((try simp (disch := (first | omega | exact zX | exact zO | fail)) only [go_sem, Nat.reduceDiv, Nat.reduceMod, Nat.reduceAdd, Nat.reduceSub, Nat.reduceEqDiff, Nat.reduceLeDiff, Nat.reduceLT, Nat.reduceMul, reduceIte, Nat.reducePow, Int.reduceEq]); exact zL); rfl) | refine zkc ?_ | apply RKg.tt | apply RKg.ff | refine zkd ?_ | refine zke ?_ | refine zkf ?_ | (refine RKg.split (fun h => ?_) (fun h => ?_) <;> (try rw [h]) <;> (replace h := zB h) <;> (try (exfalso; first | exact h | omega))) | apply RK.nil | apply V.sq | apply V.bl | apply V.sc | apply V.skip | apply V.label | apply V.ret | apply V.exit | apply SeqQ.normal | apply SeqQ.ret | apply SeqQ.exit | apply BlockQ.normal | apply BlockQ.ret | apply BlockQ.here | refine zbt ?_ | apply LoopS.ret | apply LoopS.exit | apply LoopF.ret | apply LoopF.exit | apply V.regK | refine zvd ?_ | refine zve ?_ | (refine zvf (fun h => ?_) (fun h => ?_) <;> (replace h := zB h) <;> (try (exfalso; first | exact h | omega))) | (refine zfc Tryz.results25 ?_; (try dsimp only)))
  all_goals first
    | (rw [decide_eq_true (show a < d ∨ a = d ∧ b < e by omega)]; rfl)
    | (rw [decide_eq_false (show ¬ (a < d ∨ a = d ∧ b < e) by omega)]; rfl)
    | (rw [frzR_v]; congr 2; exact decide_eq_decide.2 (by omega))
    | trace_state
end
end Go.Am

namespace Go.Am
variable {oc : Orc} [OrcI oc]
open Go.Proofs
set_option maxRecDepth 8000
set_option maxHeartbeats 8000000
def Edge (last : Bool) (ls : List (List Ce)) (e : Nat × Nat) : Prop := e.1 < ls.length ∧ e.2 < (ls.getD e.1 []).length ∧ edgP last (ls.getD e.1 []) e.2
def ltP (a b : Nat × Nat) : Prop := a.1 < b.1 ∨ a.1 = b.1 ∧ a.2 < b.2
def endS (ls : List (List Ce)) : Nat × Nat := (ls.length - 1, (ls.getD (ls.length - 1) []).length)
def IsNext (last : Bool) (ls : List (List Ce)) (s r : Nat × Nat) : Prop := (Edge last ls r ∧ ltP s r ∧ ∀ e, Edge last ls e → ltP s e → ¬ ltP e r) ∨ ((∀ e, Edge last ls e → ¬ ltP s e) ∧ r = endS ls)
def IsPrev (ls : List (List Ce)) (s r : Nat × Nat) : Prop := (Edge false ls r ∧ ltP r s ∧ ∀ e, Edge false ls e → ltP e s → ¬ ltP r e) ∨ ((∀ e, Edge false ls e → ¬ ltP e s) ∧ r = (0, 0))
theorem ltP_tri {a b : Nat × Nat} (h1 : ¬ ltP a b) (h2 : ¬ ltP b a) : a = b := by
  unfold ltP at h1 h2
  have e1 : a.1 = b.1 := by omega
  have e2 : a.2 = b.2 := by omega
  exact Prod.ext e1 e2
theorem IsNext.uniq {last : Bool} {ls : List (List Ce)} {s r r' : Nat × Nat} (h : IsNext last ls s r) (h' : IsNext last ls s r') : r = r' := by
  rcases h with ⟨h1, h2, h3⟩ | ⟨h1, h2⟩
  · rcases h' with ⟨k1, k2, k3⟩ | ⟨k1, k2⟩
    · exact ltP_tri (k3 r h1 h2) (h3 r' k1 k2)
    · exact absurd h2 (k1 r h1)
  · rcases h' with ⟨k1, k2, k3⟩ | ⟨k1, k2⟩
    · exact absurd k2 (h1 r' k1)
    · rw [h2, k2]
theorem IsPrev.uniq {ls : List (List Ce)} {s r r' : Nat × Nat} (h : IsPrev ls s r) (h' : IsPrev ls s r') : r = r' := by
  rcases h with ⟨h1, h2, h3⟩ | ⟨h1, h2⟩
  · rcases h' with ⟨k1, k2, k3⟩ | ⟨k1, k2⟩
    · exact ltP_tri (h3 r' k1 k2) (k3 r h1 h2)
    · exact absurd h2 (k1 r h1)
  · rcases h' with ⟨k1, k2, k3⟩ | ⟨k1, k2⟩
    · exact absurd k2 (h1 r' k1)
    · rw [h2, k2]
abbrev spB (a b c : Int) : Blk := ⟨24, 3, 0, [[.v (.int .i64 a), .v (.int .i64 b), .v (.int .i64 c)]], none⟩
def spotA (p : Nat × Nat) : AV := .agg [.v (.int .i64 (p.1 : Nat)), .v (.int .i64 (p.2 : Nat)), .v (.int .i64 0)]
section
variable {ys : List (Nat × LRec)} {lo : Nat} {H : AHeap} {A : AV} {l : List Ce} {es : List (List AV)} {ls : List (List Ce)}
theorem behind_run (hA : Sl 1 A es) (hr : LsP es ls) (hls : ls.length < 2 ^ 20) (hln : ∀ j, j < ls.length → (ls.getD j []).length < 2 ^ 20) (s : Nat × Nat) (past : Int) (hs1 : s.1 < ls.length) (hs2 : s.2 ≤ (ls.getD s.1 []).length) (last : Bool) (f : FuncId) (hpf : (ELo oc).pol f = .pure)
    (hf : ∀ ys lo G B (m : List Ce) (i : Nat), Sl 3 B (cesA m) → m.length < 2 ^ 40 → i < m.length → CallRo (ELo oc) ys lo f [B, .v (.int .i64 (i : Int))] G (.v (.bool (decide (edgP last m i))))) : CallRoE (ELo oc) ys lo 22 [A, .agg [.v (.int .i64 (s.1 : Nat)), .v (.int .i64 (s.2 : Nat)), .v (.int .i64 past)], .fn f []] H fun x => ∃ r, x = spotA r ∧ IsNext last ls s r := by
  refine WC.pureE rfl fun lo' H' hh => ?_
  have hlo := lo_two hh
  have hz1 : rdTr A = ⟨0, 0, 0⟩ := by rcases hA with rfl | ⟨_, rfl | rfl⟩ <;> rfl
  have lnL : ∀ G, primL lo' G (builtinA (ELo oc) .len #[22] 3 [A]) = some (.v (.int .i64 ls.length), G, ⟨0, 0, 0⟩) := fun G => by rw [lenL lo' (.inl hA) hr G (Ext.refl _), hz1]
  have ixLz : ∀ G (z : Int), 0 ≤ z → z < ls.length → primL lo' G (indexAddrA (ELo oc) 22 A (.v (.int .i64 z))) = some (ixA A es z.toNat, G, ⟨0, 0, 0⟩) := fun G z z0 z1 => by rw [ixL lo' (.inl hA) hr G (Ext.refl _) .i64 z z0 z1, hz1]
  have ldLz : ∀ G j, j < ls.length → primL lo' G (loadA (ELo oc) 33 (ixA A es j)) = some (bOf es j, G, ⟨0, 0, 0⟩) := fun G j hj => by rw [ldL lo' (.inl hA) hr G (Ext.refl _) j hj, hz1]
  have lnC : ∀ G j, j < ls.length → primL lo' G (builtinA (ELo oc) .len #[33] 3 [bOf es j]) = some (.v (.int .i64 (ls.getD j []).length), G, ⟨0, 0, 0⟩) := fun G j hj => by
    have hs := hr.sl j hj
    rw [len_cell lo' (.inl hs)]
    have : rdTr (bOf es j) = ⟨0, 0, 0⟩ := by rcases hs with h | ⟨_, h | h⟩ <;> rw [h] <;> rfl
    rw [this]
  have hf' := fun ys G j hj i hi => hf ys lo' G (bOf es j) (ls.getD j []) i (hr.sl j hj) (hr.lt j hj) hi
  have hl1 := hln s.1 hs1
  refine zvin Tryz.func22 Tryz.ntmps22 ?_
  repeat' (first | refine zka ?_ | refine zkb ?_ | (apply RKp.op; ((try simp (disch := (first | omega | exact zX | exact zO | fail)) only [lnL, go_sem, Nat.reduceDiv, Nat.reduceMod, Nat.reduceAdd, Nat.reduceSub, Nat.reduceEqDiff, Nat.reduceLeDiff, Nat.reduceLT, Nat.reduceMul, reduceIte, Nat.reducePow, Int.reduceEq]); exact zL); rfl) | refine zkc ?_ | apply RKg.tt | apply RKg.ff | refine zkd ?_ | refine zke ?_ | refine zkf ?_ | (refine RKg.split (fun h => ?_) (fun h => ?_) <;> (try rw [h]) <;> (replace h := zB h) <;> (try (exfalso; first | exact h | omega))) | apply RK.nil | apply V.sq | apply V.bl | apply V.sc | apply V.skip | apply V.label | apply V.ret | apply V.exit | apply SeqQ.normal | apply SeqQ.ret | apply SeqQ.exit | apply BlockQ.normal | apply BlockQ.ret | apply BlockQ.here | refine zbt ?_ | apply LoopS.ret | apply LoopS.exit | apply LoopF.ret | apply LoopF.exit | apply V.regK | refine zvd ?_ | refine zve ?_ | (refine zvf (fun h => ?_) (fun h => ?_) <;> (replace h := zB h) <;> (try (exfalso; first | exact h | omega))) | (refine FnQ.retB (resc Tryz.results22) (by simp (disch := (first | omega | exact zX | exact zO | fail)) only [cellR_op, lnL, go_sem, Nat.reduceDiv, Nat.reduceMod, Nat.reduceAdd, Nat.reduceSub, Nat.reduceEqDiff, Nat.reduceLeDiff, Nat.reduceLT, Nat.reduceMul, reduceIte, Nat.reducePow, Int.reduceEq]; rfl) ?_; (try dsimp only)))
  apply V.lpS [8, 7, 9, 15, 16, 17, 18, 19, 20, 21, 22, 23, 24, 25, 26, 27, 28, 29, 30, 31, 32, 33, 34, 35, 36, 37, 38, 39, 40, 41, 42, 43, 44, 45, 46, 47, 48] (fun k xs H2 => ∃ (n fr : Nat) (g : _) (a b : Nat) (c : Int), xs = .v (.int .i64 n) :: .v (.int .i64 fr) :: g ∧ k = ls.length - n ∧ s.1 ≤ n ∧ n ≤ ls.length ∧ H'.next + 2 ≤ H2.next ∧ H2.get H'.next = some (spB a b c) ∧ H2.get (H'.next + 1) = some (spB 0 0 0) ∧ (n = s.1 → fr = s.2 + 1) ∧ (s.1 < n → fr = 0 ∧ a = n - 1 ∧ b = (ls.getD (n - 1) []).length ∧ c = 0) ∧ ∀ e, Edge last ls e → ltP s e → ¬ ltP e (n, fr)) (ls.length - s.1)
  focus (intro xs; simp only [putMany, set2, Nat.reduceAdd, Nat.reduceDiv, Nat.reduceMod, nth_zero, nth_succ, List.set_cons_zero, List.set_cons_succ]; rfl)
  focus (first | rfl | simp only [readMany, nth_zero, nth_succ, Nat.reduceDiv, Nat.reduceMod])
  · refine ⟨s.1, s.2 + 1, _, s.1, s.2, past, rfl, rfl, Nat.le_refl _, by omega, by (first | omega | (simp only [next_push, next_set, next_empty]; done) | (simp only [next_push, next_set, next_empty]; omega)), by simp (disch := (first | omega | exact zX | fail)) only [get_set, get_push, next_push, next_set, if_pos', if_neg', if_true, if_false, reduceIte], by simp (disch := (first | omega | exact zX | fail)) only [get_set, get_push, next_push, next_set, if_pos', if_neg', if_true, if_false, reduceIte], fun _ => rfl, fun z => by omega, fun e _ h1 h2 => ?_⟩
    unfold ltP at h1 h2
    dsimp only at h2
    omega
  · rintro k xs H2 ⟨n, fr, g, a, b, c, rfl, rfl, hn1, hn2, hx2, g0, g1, hc1, hc2, hno⟩
    by_cases hlt : n < ls.length
    · have hln2 := hln n hlt
      have hfr : fr ≤ (ls.getD n []).length + 1 := by
        rcases Nat.lt_or_ge s.1 n with z | z
        · have := (hc2 z).1; omega
        · obtain rfl : n = s.1 := by omega
          have := hc1 rfl; omega
      repeat' (first | refine zka ?_ | refine zkb ?_ | (apply RKp.op; ((try simp (disch := (first | omega | exact zX | exact zO | fail)) only [lnL, ixLz, ldLz, lnC, Int.toNat_natCast, go_sem, Nat.reduceDiv, Nat.reduceMod, Nat.reduceAdd, Nat.reduceSub, Nat.reduceEqDiff, Nat.reduceLeDiff, Nat.reduceLT, Nat.reduceMul, reduceIte, Nat.reducePow, Int.reduceEq]); exact zL); rfl) | refine zkc ?_ | apply RKg.tt | apply RKg.ff | refine zkd ?_ | refine zke ?_ | refine zkf ?_ | (refine RKg.split (fun h => ?_) (fun h => ?_) <;> (try rw [h]) <;> (replace h := zB h) <;> (try (exfalso; first | exact h | omega))) | apply RK.nil | apply V.sq | apply V.bl | apply V.sc | apply V.skip | apply V.label | apply V.ret | apply V.exit | apply SeqQ.normal | apply SeqQ.ret | apply SeqQ.exit | apply BlockQ.normal | apply BlockQ.ret | apply BlockQ.here | refine zbt ?_ | apply LoopS.ret | apply LoopS.exit | apply LoopF.ret | apply LoopF.exit | apply V.regK | refine zvd ?_ | refine zve ?_ | (refine zvf (fun h => ?_) (fun h => ?_) <;> (replace h := zB h) <;> (try (exfalso; first | exact h | omega))) | (refine FnQ.retB (resc Tryz.results22) (by simp (disch := (first | omega | exact zX | exact zO | fail)) only [cellR_op, lnL, ixLz, ldLz, lnC, Int.toNat_natCast, go_sem, Nat.reduceDiv, Nat.reduceMod, Nat.reduceAdd, Nat.reduceSub, Nat.reduceEqDiff, Nat.reduceLeDiff, Nat.reduceLT, Nat.reduceMul, reduceIte, Nat.reducePow, Int.reduceEq]; rfl) ?_; (try dsimp only)))
      apply V.lpS [9, 22, 23, 24, 25, 26, 27, 28, 29, 30, 31, 32, 33, 34, 35, 36, 37, 38, 39, 40, 41] (fun k xs H3 => ∃ (i : Nat) (g : _), xs = .v (.int .i64 i) :: g ∧ k = (ls.getD n []).length + 1 - i ∧ fr ≤ i ∧ i ≤ (ls.getD n []).length + 1 ∧ H3 = H2 ∧ ∀ e, Edge last ls e → ltP s e → ¬ ltP e (n, i)) ((ls.getD n []).length + 1 - fr)
      focus (intro xs; simp only [putMany, set2, Nat.reduceAdd, Nat.reduceDiv, Nat.reduceMod, nth_zero, nth_succ, List.set_cons_zero, List.set_cons_succ]; rfl)
      focus (first | rfl | simp only [readMany, nth_zero, nth_succ, Nat.reduceDiv, Nat.reduceMod])
      · exact ⟨fr, _, rfl, rfl, Nat.le_refl _, hfr, rfl, hno⟩
      · rintro k xs H3 ⟨i, g, rfl, rfl, hi1, hi2, rfl, hno2⟩
        by_cases hil : i < (ls.getD n []).length
        · have hF := fun ys G => hf' ys G n hlt i hil
          by_cases he : edgP last (ls.getD n []) i
          · simp only [decide_eq_true he] at hF
            repeat' (first | refine zka ?_ | refine zkb ?_ | (apply RKp.op; ((try simp (disch := (first | omega | exact zX | exact zO | fail)) only [lnL, ixLz, ldLz, lnC, g0, g1, List.append_nil, Int.toNat_natCast, go_sem, Nat.reduceDiv, Nat.reduceMod, Nat.reduceAdd, Nat.reduceSub, Nat.reduceEqDiff, Nat.reduceLeDiff, Nat.reduceLT, Nat.reduceMul, reduceIte, Nat.reducePow, Int.reduceEq]); exact zL); rfl) | (apply RKp.call; (apply hF <;> (exact zD)); rfl) | (apply RKp.callR; (apply hF <;> (exact zD)); rfl; intro tr htr) | (apply RKp.callO; (apply hF <;> (exact zD)); rfl; intro tr) | (apply RKp.callRE; (apply hF <;> (exact zD)); (intro x; rfl)) | (apply RKp.callE; (apply hF <;> (exact zD)); (intro x; rfl)) | refine zkc ?_ | apply RKg.tt | apply RKg.ff | refine zkd ?_ | refine zke ?_ | refine zkf ?_ | (refine RKg.split (fun h => ?_) (fun h => ?_) <;> (try rw [h]) <;> (replace h := zB h) <;> (try (exfalso; first | exact h | omega))) | apply RK.nil | apply V.sq | apply V.bl | apply V.sc | apply V.skip | apply V.label | apply V.ret | apply V.exit | apply SeqQ.normal | apply SeqQ.ret | apply SeqQ.exit | apply BlockQ.normal | apply BlockQ.ret | apply BlockQ.here | refine zbt ?_ | apply LoopS.ret | apply LoopS.exit | apply LoopF.ret | apply LoopF.exit | apply V.regK | refine zvd ?_ | refine zve ?_ | (refine zvf (fun h => ?_) (fun h => ?_) <;> (replace h := zB h) <;> (try (exfalso; first | exact h | omega))) | (refine FnQ.retB (resc Tryz.results22) (by simp (disch := (first | omega | exact zX | exact zO | fail)) only [cellR_op, lnL, ixLz, ldLz, lnC, g0, g1, List.append_nil, Int.toNat_natCast, go_sem, Nat.reduceDiv, Nat.reduceMod, Nat.reduceAdd, Nat.reduceSub, Nat.reduceEqDiff, Nat.reduceLeDiff, Nat.reduceLT, Nat.reduceMul, reduceIte, Nat.reducePow, Int.reduceEq]; rfl) ?_; (try dsimp only)))
            all_goals first
              | (exfalso; omega)
              | skip
            refine ⟨(n, i), by simp only [frzR_agg, List.map_cons, List.map_nil, frzC_v, spotA], .inl ⟨⟨hlt, hil, he⟩, ?_, hno2⟩⟩
            rcases Nat.lt_or_ge s.1 n with z | z
            · exact .inl z
            · have z2 : n = s.1 := by omega
              have := hc1 z2
              exact .inr ⟨z2.symm, by dsimp only; omega⟩
          · simp only [decide_eq_false he] at hF
            repeat' (first | refine zka ?_ | refine zkb ?_ | (apply RKp.op; ((try simp (disch := (first | omega | exact zX | exact zO | fail)) only [lnL, ixLz, ldLz, lnC, g0, g1, List.append_nil, Int.toNat_natCast, go_sem, Nat.reduceDiv, Nat.reduceMod, Nat.reduceAdd, Nat.reduceSub, Nat.reduceEqDiff, Nat.reduceLeDiff, Nat.reduceLT, Nat.reduceMul, reduceIte, Nat.reducePow, Int.reduceEq]); exact zL); rfl) | (apply RKp.call; (apply hF <;> (exact zD)); rfl) | (apply RKp.callR; (apply hF <;> (exact zD)); rfl; intro tr htr) | (apply RKp.callO; (apply hF <;> (exact zD)); rfl; intro tr) | (apply RKp.callRE; (apply hF <;> (exact zD)); (intro x; rfl)) | (apply RKp.callE; (apply hF <;> (exact zD)); (intro x; rfl)) | refine zkc ?_ | apply RKg.tt | apply RKg.ff | refine zkd ?_ | refine zke ?_ | refine zkf ?_ | (refine RKg.split (fun h => ?_) (fun h => ?_) <;> (try rw [h]) <;> (replace h := zB h) <;> (try (exfalso; first | exact h | omega))) | apply RK.nil | apply V.sq | apply V.bl | apply V.sc | apply V.skip | apply V.label | apply V.ret | apply V.exit | apply SeqQ.normal | apply SeqQ.ret | apply SeqQ.exit | apply BlockQ.normal | apply BlockQ.ret | apply BlockQ.here | refine zbt ?_ | apply LoopS.ret | apply LoopS.exit | apply LoopF.ret | apply LoopF.exit | apply V.regK | refine zvd ?_ | refine zve ?_ | (refine zvf (fun h => ?_) (fun h => ?_) <;> (replace h := zB h) <;> (try (exfalso; first | exact h | omega))) | (refine FnQ.retB (resc Tryz.results22) (by simp (disch := (first | omega | exact zX | exact zO | fail)) only [cellR_op, lnL, ixLz, ldLz, lnC, g0, g1, List.append_nil, Int.toNat_natCast, go_sem, Nat.reduceDiv, Nat.reduceMod, Nat.reduceAdd, Nat.reduceSub, Nat.reduceEqDiff, Nat.reduceLeDiff, Nat.reduceLT, Nat.reduceMul, reduceIte, Nat.reducePow, Int.reduceEq]; rfl) ?_; (try dsimp only)))
            all_goals first
              | (exfalso; omega)
              | skip
            refine LoopS.again ((ls.getD n []).length + 1 - (i + 1)) (by rfl) (by omega) ⟨i + 1, _, rfl, rfl, by omega, by omega, rfl, fun e h1 h2 h3 => ?_⟩
            by_cases q : e = (n, i)
            · rw [q] at h1; exact he h1.2.2
            · refine hno2 e h1 h2 ?_
              rcases h3 with h3 | ⟨h3, h4⟩
              · exact .inl h3
              · refine .inr ⟨h3, ?_⟩
                dsimp only at h3 h4 ⊢
                rcases Nat.lt_or_ge e.2 i with y | y
                · exact y
                · exact absurd (Prod.ext h3 (by dsimp only; omega)) q
        · repeat' (first | refine zka ?_ | refine zkb ?_ | (apply RKp.op; ((try simp (disch := (first | omega | exact zX | exact zO | fail)) only [lnL, ixLz, ldLz, lnC, g0, g1, Int.toNat_natCast, go_sem, Nat.reduceDiv, Nat.reduceMod, Nat.reduceAdd, Nat.reduceSub, Nat.reduceEqDiff, Nat.reduceLeDiff, Nat.reduceLT, Nat.reduceMul, reduceIte, Nat.reducePow, Int.reduceEq]); exact zL); rfl) | refine zkc ?_ | apply RKg.tt | apply RKg.ff | refine zkd ?_ | refine zke ?_ | refine zkf ?_ | (refine RKg.split (fun h => ?_) (fun h => ?_) <;> (try rw [h]) <;> (replace h := zB h) <;> (try (exfalso; first | exact h | omega))) | apply RK.nil | apply V.sq | apply V.bl | apply V.sc | apply V.skip | apply V.label | apply V.ret | apply V.exit | apply SeqQ.normal | apply SeqQ.ret | apply SeqQ.exit | apply BlockQ.normal | apply BlockQ.ret | apply BlockQ.here | refine zbt ?_ | apply LoopS.ret | apply LoopS.exit | apply LoopF.ret | apply LoopF.exit | apply V.regK | refine zvd ?_ | refine zve ?_ | (refine zvf (fun h => ?_) (fun h => ?_) <;> (replace h := zB h) <;> (try (exfalso; first | exact h | omega))) | (refine FnQ.retB (resc Tryz.results22) (by simp (disch := (first | omega | exact zX | exact zO | fail)) only [cellR_op, lnL, ixLz, ldLz, lnC, g0, g1, Int.toNat_natCast, go_sem, Nat.reduceDiv, Nat.reduceMod, Nat.reduceAdd, Nat.reduceSub, Nat.reduceEqDiff, Nat.reduceLeDiff, Nat.reduceLT, Nat.reduceMul, reduceIte, Nat.reducePow, Int.reduceEq]; rfl) ?_; (try dsimp only)))
          all_goals first
            | (exfalso; omega)
            | skip
          refine LoopS.again (ls.length - (n + 1)) (by rfl) (by omega) ⟨n + 1, 0, _, n, (ls.getD n []).length, 0, rfl, rfl, by omega, by omega, by (first | omega | (simp only [next_push, next_set, next_empty]; done) | (simp only [next_push, next_set, next_empty]; omega)), by simp (disch := (first | omega | exact zX | fail)) only [get_set, get_push, next_push, next_set, if_pos', if_neg', if_true, if_false, reduceIte], by simp (disch := (first | omega | exact zX | fail)) only [get_set, get_push, next_push, next_set, if_pos', if_neg', if_true, if_false, reduceIte]; exact g1, fun z => by omega, fun _ => ⟨rfl, rfl, rfl, rfl⟩, fun e h1 h2 h3 => ?_⟩
          refine hno2 e h1 h2 ?_
          rcases h3 with h3 | ⟨h3, h4⟩
          · dsimp only at h3
            rcases Nat.lt_or_ge e.1 n with y | y
            · exact .inl y
            · have e1 : e.1 = n := by omega
              have h5 := h1.2.1
              rw [e1] at h5
              exact .inr ⟨e1, by dsimp only; omega⟩
          · exact absurd h4 (Nat.not_lt_zero _)
    · repeat' (first | refine zka ?_ | refine zkb ?_ | (apply RKp.op; ((try simp (disch := (first | omega | exact zX | exact zO | fail)) only [lnL, g0, g1, Int.toNat_natCast, go_sem, Nat.reduceDiv, Nat.reduceMod, Nat.reduceAdd, Nat.reduceSub, Nat.reduceEqDiff, Nat.reduceLeDiff, Nat.reduceLT, Nat.reduceMul, reduceIte, Nat.reducePow, Int.reduceEq]); exact zL); rfl) | refine zkc ?_ | apply RKg.tt | apply RKg.ff | refine zkd ?_ | refine zke ?_ | refine zkf ?_ | (refine RKg.split (fun h => ?_) (fun h => ?_) <;> (try rw [h]) <;> (replace h := zB h) <;> (try (exfalso; first | exact h | omega))) | apply RK.nil | apply V.sq | apply V.bl | apply V.sc | apply V.skip | apply V.label | apply V.ret | apply V.exit | apply SeqQ.normal | apply SeqQ.ret | apply SeqQ.exit | apply BlockQ.normal | apply BlockQ.ret | apply BlockQ.here | refine zbt ?_ | apply LoopS.ret | apply LoopS.exit | apply LoopF.ret | apply LoopF.exit | apply V.regK | refine zvd ?_ | refine zve ?_ | (refine zvf (fun h => ?_) (fun h => ?_) <;> (replace h := zB h) <;> (try (exfalso; first | exact h | omega))) | (refine FnQ.retB (resc Tryz.results22) (by simp (disch := (first | omega | exact zX | exact zO | fail)) only [cellR_op, lnL, g0, g1, Int.toNat_natCast, go_sem, Nat.reduceDiv, Nat.reduceMod, Nat.reduceAdd, Nat.reduceSub, Nat.reduceEqDiff, Nat.reduceLeDiff, Nat.reduceLT, Nat.reduceMul, reduceIte, Nat.reducePow, Int.reduceEq]; rfl) ?_; (try dsimp only)))
      all_goals first
        | (exfalso; omega)
        | skip
      obtain ⟨-, c1, c2, c3⟩ := hc2 (by omega)
      have en : n = ls.length := by omega
      subst en c1 c2 c3
      refine ⟨endS ls, by simp only [frzR_agg, List.map_cons, List.map_nil, frzC_v, spotA, endS], .inr ⟨fun e h1 h2 => hno e h1 h2 (.inl h1.1), rfl⟩⟩
def validS (ls : List (List Ce)) (a b : Int) : Prop := 0 ≤ a ∧ a < ls.length ∧ 0 ≤ b ∧ b ≤ (ls.getD a.toNat []).length
instance (ls : List (List Ce)) (a b : Int) : Decidable (validS ls a b) := inferInstanceAs (Decidable (_ ∧ _))
theorem wmay_run (hA : Sl 1 A es) (hr : LsP es ls) (hls : ls.length < 2 ^ 20) (a b p : Int) : CallRo (ELo oc) ys lo 21 [A, .agg [.v (.int .i64 a), .v (.int .i64 b), .v (.int .i64 p)]] H (.v (.bool (decide (validS ls a b)))) := by
  refine WC.pureR rfl fun lo' H' hh => ?_
  have hlo := lo_two hh
  have hz1 : rdTr A = ⟨0, 0, 0⟩ := by rcases hA with rfl | ⟨_, rfl | rfl⟩ <;> rfl
  have lnL : ∀ G, primL lo' G (builtinA (ELo oc) .len #[22] 3 [A]) = some (.v (.int .i64 ls.length), G, ⟨0, 0, 0⟩) := fun G => by rw [lenL lo' (.inl hA) hr G (Ext.refl _), hz1]
  have ixLz : ∀ G (z : Int), 0 ≤ z → z < ls.length → primL lo' G (indexAddrA (ELo oc) 22 A (.v (.int .i64 z))) = some (ixA A es z.toNat, G, ⟨0, 0, 0⟩) := fun G z z0 z1 => by rw [ixL lo' (.inl hA) hr G (Ext.refl _) .i64 z z0 z1, hz1]
  have ldLz : ∀ G j, j < ls.length → primL lo' G (loadA (ELo oc) 33 (ixA A es j)) = some (bOf es j, G, ⟨0, 0, 0⟩) := fun G j hj => by rw [ldL lo' (.inl hA) hr G (Ext.refl _) j hj, hz1]
  have lnC : ∀ G j, j < ls.length → primL lo' G (builtinA (ELo oc) .len #[33] 3 [bOf es j]) = some (.v (.int .i64 (ls.getD j []).length), G, ⟨0, 0, 0⟩) := fun G j hj => by
    have hs := hr.sl j hj
    rw [len_cell lo' (.inl hs)]
    have : rdTr (bOf es j) = ⟨0, 0, 0⟩ := by rcases hs with h | ⟨_, h | h⟩ <;> rw [h] <;> rfl
    rw [this]
  by_cases h1 : 0 ≤ a ∧ a < ls.length
  · have lnA := fun G => lnC G a.toNat (by omega)
    generalize hL : (ls.getD a.toNat []).length = L at *
    refine zvin Tryz.func21 Tryz.ntmps21 ?_
    repeat' (first | refine zka ?_ | refine zkb ?_ | (apply RKp.op; ((try simp (disch := (first | omega | exact zX | exact zO | fail)) only [lnL, ixLz, ldLz, lnA, go_sem, Nat.reduceDiv, Nat.reduceMod, Nat.reduceAdd, Nat.reduceSub, Nat.reduceEqDiff, Nat.reduceLeDiff, Nat.reduceLT, Nat.reduceMul, reduceIte, Nat.reducePow, Int.reduceEq]); exact zL); rfl) | refine zkc ?_ | apply RKg.tt | apply RKg.ff | refine zkd ?_ | refine zke ?_ | refine zkf ?_ | (refine RKg.split (fun h => ?_) (fun h => ?_) <;> (try rw [h]) <;> (replace h := zB h) <;> (try (exfalso; first | exact h | omega))) | apply RK.nil | apply V.sq | apply V.bl | apply V.sc | apply V.skip | apply V.label | apply V.ret | apply V.exit | apply SeqQ.normal | apply SeqQ.ret | apply SeqQ.exit | apply BlockQ.normal | apply BlockQ.ret | apply BlockQ.here | refine zbt ?_ | apply LoopS.ret | apply LoopS.exit | apply LoopF.ret | apply LoopF.exit | apply V.regK | refine zva ?_ | refine zvb ?_ | refine zgc ?_ | refine zvd ?_ | refine zve ?_ | (refine zvf (fun h => ?_) (fun h => ?_) <;> (replace h := zB h) <;> (try (exfalso; first | exact h | omega))) | (refine zfc Tryz.results21 ?_; (try dsimp only)))
    all_goals first
      | (exfalso; omega)
      | (rw [frzR_v]; congr 2; exact decide_eq_decide.2 (by unfold validS; rw [hL]; omega))
      | (rw [decide_eq_true (show validS ls a b by unfold validS; rw [hL]; omega)]; rfl)
      | (rw [decide_eq_false (show ¬ validS ls a b by unfold validS; rw [hL]; omega)]; rfl)
      | trace_state
  · rw [decide_eq_false (fun z => h1 ⟨z.1, z.2.1⟩)]
    refine zvin Tryz.func21 Tryz.ntmps21 ?_
    repeat' (first | refine zka ?_ | refine zkb ?_ | (apply RKp.op; ((try simp (disch := (first | omega | exact zX | exact zO | fail)) only [lnL, go_sem, Nat.reduceDiv, Nat.reduceMod, Nat.reduceAdd, Nat.reduceSub, Nat.reduceEqDiff, Nat.reduceLeDiff, Nat.reduceLT, Nat.reduceMul, reduceIte, Nat.reducePow, Int.reduceEq]); exact zL); rfl) | refine zkc ?_ | apply RKg.tt | apply RKg.ff | refine zkd ?_ | refine zke ?_ | refine zkf ?_ | (refine RKg.split (fun h => ?_) (fun h => ?_) <;> (try rw [h]) <;> (replace h := zB h) <;> (try (exfalso; first | exact h | omega))) | apply RK.nil | apply V.sq | apply V.bl | apply V.sc | apply V.skip | apply V.label | apply V.ret | apply V.exit | apply SeqQ.normal | apply SeqQ.ret | apply SeqQ.exit | apply BlockQ.normal | apply BlockQ.ret | apply BlockQ.here | refine zbt ?_ | apply LoopS.ret | apply LoopS.exit | apply LoopF.ret | apply LoopF.exit | apply V.regK | refine zva ?_ | refine zvb ?_ | refine zgc ?_ | refine zvd ?_ | refine zve ?_ | (refine zvf (fun h => ?_) (fun h => ?_) <;> (replace h := zB h) <;> (try (exfalso; first | exact h | omega))) | (refine zfc Tryz.results21 ?_; (try dsimp only)))
    all_goals first
      | (exfalso; omega)
      | rfl
      | trace_state
theorem Next_no (hA : Sl 1 A es) (hr : LsP es ls) (hls : ls.length < 2 ^ 20) (a b p : Int) (hv : ¬ validS ls a b) : CallRo (ELo oc) ys lo 10 [A, .agg [.v (.int .i64 a), .v (.int .i64 b), .v (.int .i64 p)]] H (.agg [.v (.int .i64 a), .v (.int .i64 b), .v (.int .i64 p)]) := by
  refine WC.pureR rfl fun lo' H' hh => ?_
  have hlo := lo_two hh
  have hM := fun ys G => wmay_run (ys := ys) (lo := lo') (H := G) hA hr hls a b p
  simp only [decide_eq_false hv] at hM
  refine zvin Tryz.func10 Tryz.ntmps10 ?_
  repeat' (first | refine zka ?_ | refine zkb ?_ | (apply RKp.op; ((try simp (disch := (first | omega | exact zX | exact zO | fail)) only [go_sem, Nat.reduceDiv, Nat.reduceMod, Nat.reduceAdd, Nat.reduceSub, Nat.reduceEqDiff, Nat.reduceLeDiff, Nat.reduceLT, Nat.reduceMul, reduceIte, Nat.reducePow, Int.reduceEq]); exact zL); rfl) | (apply RKp.callR; (apply hM <;> (exact zD)); rfl; intro tr htr) | refine zkc ?_ | apply RKg.tt | apply RKg.ff | refine zkd ?_ | refine zke ?_ | refine zkf ?_ | (refine RKg.split (fun h => ?_) (fun h => ?_) <;> (try rw [h]) <;> (replace h := zB h) <;> (try (exfalso; first | exact h | omega))) | apply RK.nil | apply V.sq | apply V.bl | apply V.sc | apply V.skip | apply V.label | apply V.ret | apply V.exit | apply SeqQ.normal | apply SeqQ.ret | apply SeqQ.exit | apply BlockQ.normal | apply BlockQ.ret | apply BlockQ.here | refine zbt ?_ | apply LoopS.ret | apply LoopS.exit | apply LoopF.ret | apply LoopF.exit | apply V.regK | refine zvd ?_ | refine zve ?_ | (refine zvf (fun h => ?_) (fun h => ?_) <;> (replace h := zB h) <;> (try (exfalso; first | exact h | omega))) | (refine FnQ.retB (resc Tryz.results10) (by simp (disch := (first | omega | exact zX | exact zO | fail)) only [cellR_op, go_sem, Nat.reduceDiv, Nat.reduceMod, Nat.reduceAdd, Nat.reduceSub, Nat.reduceEqDiff, Nat.reduceLeDiff, Nat.reduceLT, Nat.reduceMul, reduceIte, Nat.reducePow, Int.reduceEq]; rfl) ?_; (try dsimp only)))
  all_goals first
    | rfl
    | trace_state
theorem End_no (hA : Sl 1 A es) (hr : LsP es ls) (hls : ls.length < 2 ^ 20) (a b p : Int) (hv : ¬ validS ls a b) : CallRo (ELo oc) ys lo 13 [A, .agg [.v (.int .i64 a), .v (.int .i64 b), .v (.int .i64 p)]] H (.agg [.v (.int .i64 a), .v (.int .i64 b), .v (.int .i64 p)]) := by
  refine WC.pureR rfl fun lo' H' hh => ?_
  have hlo := lo_two hh
  have hM := fun ys G => wmay_run (ys := ys) (lo := lo') (H := G) hA hr hls a b p
  simp only [decide_eq_false hv] at hM
  refine zvin Tryz.func13 Tryz.ntmps13 ?_
  repeat' (first | refine zka ?_ | refine zkb ?_ | (apply RKp.op; ((try simp (disch := (first | omega | exact zX | exact zO | fail)) only [go_sem, Nat.reduceDiv, Nat.reduceMod, Nat.reduceAdd, Nat.reduceSub, Nat.reduceEqDiff, Nat.reduceLeDiff, Nat.reduceLT, Nat.reduceMul, reduceIte, Nat.reducePow, Int.reduceEq]); exact zL); rfl) | (apply RKp.callR; (apply hM <;> (exact zD)); rfl; intro tr htr) | refine zkc ?_ | apply RKg.tt | apply RKg.ff | refine zkd ?_ | refine zke ?_ | refine zkf ?_ | (refine RKg.split (fun h => ?_) (fun h => ?_) <;> (try rw [h]) <;> (replace h := zB h) <;> (try (exfalso; first | exact h | omega))) | apply RK.nil | apply V.sq | apply V.bl | apply V.sc | apply V.skip | apply V.label | apply V.ret | apply V.exit | apply SeqQ.normal | apply SeqQ.ret | apply SeqQ.exit | apply BlockQ.normal | apply BlockQ.ret | apply BlockQ.here | refine zbt ?_ | apply LoopS.ret | apply LoopS.exit | apply LoopF.ret | apply LoopF.exit | apply V.regK | refine zvd ?_ | refine zve ?_ | (refine zvf (fun h => ?_) (fun h => ?_) <;> (replace h := zB h) <;> (try (exfalso; first | exact h | omega))) | (refine FnQ.retB (resc Tryz.results13) (by simp (disch := (first | omega | exact zX | exact zO | fail)) only [cellR_op, go_sem, Nat.reduceDiv, Nat.reduceMod, Nat.reduceAdd, Nat.reduceSub, Nat.reduceEqDiff, Nat.reduceLeDiff, Nat.reduceLT, Nat.reduceMul, reduceIte, Nat.reducePow, Int.reduceEq]; rfl) ?_; (try dsimp only)))
  all_goals first
    | rfl
    | trace_state
theorem Prev_no (hA : Sl 1 A es) (hr : LsP es ls) (hls : ls.length < 2 ^ 20) (a b p : Int) (hv : ¬ validS ls a b) : CallRo (ELo oc) ys lo 12 [A, .agg [.v (.int .i64 a), .v (.int .i64 b), .v (.int .i64 p)]] H (.agg [.v (.int .i64 a), .v (.int .i64 b), .v (.int .i64 p)]) := by
  refine WC.pureR rfl fun lo' H' hh => ?_
  have hlo := lo_two hh
  have hM := fun ys G => wmay_run (ys := ys) (lo := lo') (H := G) hA hr hls a b p
  simp only [decide_eq_false hv] at hM
  refine zvin Tryz.func12 Tryz.ntmps12 ?_
  repeat' (first | refine zka ?_ | refine zkb ?_ | (apply RKp.op; ((try simp (disch := (first | omega | exact zX | exact zO | fail)) only [go_sem, Nat.reduceDiv, Nat.reduceMod, Nat.reduceAdd, Nat.reduceSub, Nat.reduceEqDiff, Nat.reduceLeDiff, Nat.reduceLT, Nat.reduceMul, reduceIte, Nat.reducePow, Int.reduceEq]); exact zL); rfl) | (apply RKp.callR; (apply hM <;> (exact zD)); rfl; intro tr htr) | refine zkc ?_ | apply RKg.tt | apply RKg.ff | refine zkd ?_ | refine zke ?_ | refine zkf ?_ | (refine RKg.split (fun h => ?_) (fun h => ?_) <;> (try rw [h]) <;> (replace h := zB h) <;> (try (exfalso; first | exact h | omega))) | apply RK.nil | apply V.sq | apply V.bl | apply V.sc | apply V.skip | apply V.label | apply V.ret | apply V.exit | apply SeqQ.normal | apply SeqQ.ret | apply SeqQ.exit | apply BlockQ.normal | apply BlockQ.ret | apply BlockQ.here | refine zbt ?_ | apply LoopS.ret | apply LoopS.exit | apply LoopF.ret | apply LoopF.exit | apply V.regK | refine zvd ?_ | refine zve ?_ | (refine zvf (fun h => ?_) (fun h => ?_) <;> (replace h := zB h) <;> (try (exfalso; first | exact h | omega))) | (refine FnQ.retB (resc Tryz.results12) (by simp (disch := (first | omega | exact zX | exact zO | fail)) only [cellR_op, go_sem, Nat.reduceDiv, Nat.reduceMod, Nat.reduceAdd, Nat.reduceSub, Nat.reduceEqDiff, Nat.reduceLeDiff, Nat.reduceLT, Nat.reduceMul, reduceIte, Nat.reducePow, Int.reduceEq]; rfl) ?_; (try dsimp only)))
  all_goals first
    | rfl
    | trace_state
theorem validS_N {s : Nat × Nat} (h1 : s.1 < ls.length) (h2 : s.2 ≤ (ls.getD s.1 []).length) : validS ls (s.1 : Nat) (s.2 : Nat) := ⟨by omega, by omega, by omega, by rw [Int.toNat_natCast]; omega⟩
theorem Next_run (hA : Sl 1 A es) (hr : LsP es ls) (hls : ls.length < 2 ^ 20) (hln : ∀ j, j < ls.length → (ls.getD j []).length < 2 ^ 20) (s : Nat × Nat) (p : Int) (hs1 : s.1 < ls.length) (hs2 : s.2 ≤ (ls.getD s.1 []).length) : CallRoE (ELo oc) ys lo 10 [A, .agg [.v (.int .i64 (s.1 : Nat)), .v (.int .i64 (s.2 : Nat)), .v (.int .i64 p)]] H fun x => ∃ r, x = spotA r ∧ IsNext false ls s r := by
  have hB := fun ys lo G => behind_run (ys := ys) (lo := lo) (H := G) hA hr hls hln s p hs1 hs2 false 23 rfl (fun ys lo G B m i h1 h2 h3 => begins_run h1 h2 i h3)
  refine WC.pureE rfl fun lo' H' hh => ?_
  have hlo := lo_two hh
  have hM := fun ys G => wmay_run (ys := ys) (lo := lo') (H := G) hA hr hls (s.1 : Nat) (s.2 : Nat) p
  simp only [decide_eq_true (validS_N hs1 hs2)] at hM
  refine zvin Tryz.func10 Tryz.ntmps10 ?_
  repeat' (first | refine zka ?_ | refine zkb ?_ | (apply RKp.op; ((try simp (disch := (first | omega | exact zX | exact zO | fail)) only [go_sem, Nat.reduceDiv, Nat.reduceMod, Nat.reduceAdd, Nat.reduceSub, Nat.reduceEqDiff, Nat.reduceLeDiff, Nat.reduceLT, Nat.reduceMul, reduceIte, Nat.reducePow, Int.reduceEq]); exact zL); rfl) | (apply RKp.callR; (apply hM <;> (exact zD)); rfl; intro tr htr) | (apply RKp.callRE; (apply hB <;> (exact zD)); (intro x; rfl)) | refine zkc ?_ | apply RKg.tt | apply RKg.ff | refine zkd ?_ | refine zke ?_ | refine zkf ?_ | (refine RKg.split (fun h => ?_) (fun h => ?_) <;> (try rw [h]) <;> (replace h := zB h) <;> (try (exfalso; first | exact h | omega))) | apply RK.nil | apply V.sq | apply V.bl | apply V.sc | apply V.skip | apply V.label | apply V.ret | apply V.exit | apply SeqQ.normal | apply SeqQ.ret | apply SeqQ.exit | apply BlockQ.normal | apply BlockQ.ret | apply BlockQ.here | refine zbt ?_ | apply LoopS.ret | apply LoopS.exit | apply LoopF.ret | apply LoopF.exit | apply V.regK | refine zvd ?_ | refine zve ?_ | (refine zvf (fun h => ?_) (fun h => ?_) <;> (replace h := zB h) <;> (try (exfalso; first | exact h | omega))) | (refine FnQ.retB (resc Tryz.results10) (by simp (disch := (first | omega | exact zX | exact zO | fail)) only [cellR_op, go_sem, Nat.reduceDiv, Nat.reduceMod, Nat.reduceAdd, Nat.reduceSub, Nat.reduceEqDiff, Nat.reduceLeDiff, Nat.reduceLT, Nat.reduceMul, reduceIte, Nat.reducePow, Int.reduceEq]; rfl) ?_; (try dsimp only)))
  rintro x tr htr ⟨r, rfl, hN⟩
  unfold spotA
  repeat' (first | refine zka ?_ | refine zkb ?_ | (apply RKp.op; ((try simp (disch := (first | omega | exact zX | exact zO | fail)) only [go_sem, Nat.reduceDiv, Nat.reduceMod, Nat.reduceAdd, Nat.reduceSub, Nat.reduceEqDiff, Nat.reduceLeDiff, Nat.reduceLT, Nat.reduceMul, reduceIte, Nat.reducePow, Int.reduceEq]); exact zL); rfl) | refine zkc ?_ | apply RKg.tt | apply RKg.ff | refine zkd ?_ | refine zke ?_ | refine zkf ?_ | (refine RKg.split (fun h => ?_) (fun h => ?_) <;> (try rw [h]) <;> (replace h := zB h) <;> (try (exfalso; first | exact h | omega))) | apply RK.nil | apply V.sq | apply V.bl | apply V.sc | apply V.skip | apply V.label | apply V.ret | apply V.exit | apply SeqQ.normal | apply SeqQ.ret | apply SeqQ.exit | apply BlockQ.normal | apply BlockQ.ret | apply BlockQ.here | refine zbt ?_ | apply LoopS.ret | apply LoopS.exit | apply LoopF.ret | apply LoopF.exit | apply V.regK | refine zvd ?_ | refine zve ?_ | (refine zvf (fun h => ?_) (fun h => ?_) <;> (replace h := zB h) <;> (try (exfalso; first | exact h | omega))) | (refine FnQ.retB (resc Tryz.results10) (by simp (disch := (first | omega | exact zX | exact zO | fail)) only [cellR_op, go_sem, Nat.reduceDiv, Nat.reduceMod, Nat.reduceAdd, Nat.reduceSub, Nat.reduceEqDiff, Nat.reduceLeDiff, Nat.reduceLT, Nat.reduceMul, reduceIte, Nat.reducePow, Int.reduceEq]; rfl) ?_; (try dsimp only)))
  exact ⟨r, by simp only [frzR_agg, List.map_cons, List.map_nil, frzC_v, spotA], hN⟩
theorem End_run (hA : Sl 1 A es) (hr : LsP es ls) (hls : ls.length < 2 ^ 20) (hln : ∀ j, j < ls.length → (ls.getD j []).length < 2 ^ 20) (s : Nat × Nat) (p : Int) (hs1 : s.1 < ls.length) (hs2 : s.2 ≤ (ls.getD s.1 []).length) : CallRoE (ELo oc) ys lo 13 [A, .agg [.v (.int .i64 (s.1 : Nat)), .v (.int .i64 (s.2 : Nat)), .v (.int .i64 p)]] H fun x => ∃ r, x = spotA r ∧ IsNext true ls s r := by
  have hB := fun ys lo G => behind_run (ys := ys) (lo := lo) (H := G) hA hr hls hln s p hs1 hs2 true 26 rfl (fun ys lo G B m i h1 h2 h3 => ends_run h1 h2 i h3)
  refine WC.pureE rfl fun lo' H' hh => ?_
  have hlo := lo_two hh
  have hM := fun ys G => wmay_run (ys := ys) (lo := lo') (H := G) hA hr hls (s.1 : Nat) (s.2 : Nat) p
  simp only [decide_eq_true (validS_N hs1 hs2)] at hM
  refine zvin Tryz.func13 Tryz.ntmps13 ?_
  repeat' (first | refine zka ?_ | refine zkb ?_ | (apply RKp.op; ((try simp (disch := (first | omega | exact zX | exact zO | fail)) only [go_sem, Nat.reduceDiv, Nat.reduceMod, Nat.reduceAdd, Nat.reduceSub, Nat.reduceEqDiff, Nat.reduceLeDiff, Nat.reduceLT, Nat.reduceMul, reduceIte, Nat.reducePow, Int.reduceEq]); exact zL); rfl) | (apply RKp.callR; (apply hM <;> (exact zD)); rfl; intro tr htr) | (apply RKp.callRE; (apply hB <;> (exact zD)); (intro x; rfl)) | refine zkc ?_ | apply RKg.tt | apply RKg.ff | refine zkd ?_ | refine zke ?_ | refine zkf ?_ | (refine RKg.split (fun h => ?_) (fun h => ?_) <;> (try rw [h]) <;> (replace h := zB h) <;> (try (exfalso; first | exact h | omega))) | apply RK.nil | apply V.sq | apply V.bl | apply V.sc | apply V.skip | apply V.label | apply V.ret | apply V.exit | apply SeqQ.normal | apply SeqQ.ret | apply SeqQ.exit | apply BlockQ.normal | apply BlockQ.ret | apply BlockQ.here | refine zbt ?_ | apply LoopS.ret | apply LoopS.exit | apply LoopF.ret | apply LoopF.exit | apply V.regK | refine zvd ?_ | refine zve ?_ | (refine zvf (fun h => ?_) (fun h => ?_) <;> (replace h := zB h) <;> (try (exfalso; first | exact h | omega))) | (refine FnQ.retB (resc Tryz.results13) (by simp (disch := (first | omega | exact zX | exact zO | fail)) only [cellR_op, go_sem, Nat.reduceDiv, Nat.reduceMod, Nat.reduceAdd, Nat.reduceSub, Nat.reduceEqDiff, Nat.reduceLeDiff, Nat.reduceLT, Nat.reduceMul, reduceIte, Nat.reducePow, Int.reduceEq]; rfl) ?_; (try dsimp only)))
  rintro x tr htr ⟨r, rfl, hN⟩
  unfold spotA
  repeat' (first | refine zka ?_ | refine zkb ?_ | (apply RKp.op; ((try simp (disch := (first | omega | exact zX | exact zO | fail)) only [go_sem, Nat.reduceDiv, Nat.reduceMod, Nat.reduceAdd, Nat.reduceSub, Nat.reduceEqDiff, Nat.reduceLeDiff, Nat.reduceLT, Nat.reduceMul, reduceIte, Nat.reducePow, Int.reduceEq]); exact zL); rfl) | refine zkc ?_ | apply RKg.tt | apply RKg.ff | refine zkd ?_ | refine zke ?_ | refine zkf ?_ | (refine RKg.split (fun h => ?_) (fun h => ?_) <;> (try rw [h]) <;> (replace h := zB h) <;> (try (exfalso; first | exact h | omega))) | apply RK.nil | apply V.sq | apply V.bl | apply V.sc | apply V.skip | apply V.label | apply V.ret | apply V.exit | apply SeqQ.normal | apply SeqQ.ret | apply SeqQ.exit | apply BlockQ.normal | apply BlockQ.ret | apply BlockQ.here | refine zbt ?_ | apply LoopS.ret | apply LoopS.exit | apply LoopF.ret | apply LoopF.exit | apply V.regK | refine zvd ?_ | refine zve ?_ | (refine zvf (fun h => ?_) (fun h => ?_) <;> (replace h := zB h) <;> (try (exfalso; first | exact h | omega))) | (refine FnQ.retB (resc Tryz.results13) (by simp (disch := (first | omega | exact zX | exact zO | fail)) only [cellR_op, go_sem, Nat.reduceDiv, Nat.reduceMod, Nat.reduceAdd, Nat.reduceSub, Nat.reduceEqDiff, Nat.reduceLeDiff, Nat.reduceLT, Nat.reduceMul, reduceIte, Nat.reducePow, Int.reduceEq]; rfl) ?_; (try dsimp only)))
  exact ⟨r, by simp only [frzR_agg, List.map_cons, List.map_nil, frzC_v, spotA], hN⟩
end
end Go.Am

namespace Go.Am
variable {oc : Orc} [OrcI oc]
open Go.Proofs
set_option maxRecDepth 8000
set_option maxHeartbeats 8000000
section
variable {ys : List (Nat × LRec)} {lo : Nat} {H : AHeap} {A : AV} {l : List Ce} {es : List (List AV)} {ls : List (List Ce)}
theorem Prev_run (hA : Sl 1 A es) (hr : LsP es ls) (hls : ls.length < 2 ^ 20) (hln : ∀ j, j < ls.length → (ls.getD j []).length < 2 ^ 20) (s : Nat × Nat) (p : Int) (hs1 : s.1 < ls.length) (hs2 : s.2 ≤ (ls.getD s.1 []).length) : CallRoE (ELo oc) ys lo 12 [A, .agg [.v (.int .i64 (s.1 : Nat)), .v (.int .i64 (s.2 : Nat)), .v (.int .i64 p)]] H fun x => ∃ r, x = spotA r ∧ IsPrev ls s r := by
  refine WC.pureE rfl fun lo' H' hh => ?_
  have hlo := lo_two hh
  have hz1 : rdTr A = ⟨0, 0, 0⟩ := by rcases hA with rfl | ⟨_, rfl | rfl⟩ <;> rfl
  have lnL : ∀ G, primL lo' G (builtinA (ELo oc) .len #[22] 3 [A]) = some (.v (.int .i64 ls.length), G, ⟨0, 0, 0⟩) := fun G => by rw [lenL lo' (.inl hA) hr G (Ext.refl _), hz1]
  have ixLz : ∀ G (z : Int), 0 ≤ z → z < ls.length → primL lo' G (indexAddrA (ELo oc) 22 A (.v (.int .i64 z))) = some (ixA A es z.toNat, G, ⟨0, 0, 0⟩) := fun G z z0 z1 => by rw [ixL lo' (.inl hA) hr G (Ext.refl _) .i64 z z0 z1, hz1]
  have ldLz : ∀ G j, j < ls.length → primL lo' G (loadA (ELo oc) 33 (ixA A es j)) = some (bOf es j, G, ⟨0, 0, 0⟩) := fun G j hj => by rw [ldL lo' (.inl hA) hr G (Ext.refl _) j hj, hz1]
  have lnC : ∀ G j, j < ls.length → primL lo' G (builtinA (ELo oc) .len #[33] 3 [bOf es j]) = some (.v (.int .i64 (ls.getD j []).length), G, ⟨0, 0, 0⟩) := fun G j hj => by
    have hs := hr.sl j hj
    rw [len_cell lo' (.inl hs)]
    have : rdTr (bOf es j) = ⟨0, 0, 0⟩ := by rcases hs with h | ⟨_, h | h⟩ <;> rw [h] <;> rfl
    rw [this]
  have hM := fun ys G => wmay_run (ys := ys) (lo := lo') (H := G) hA hr hls (s.1 : Nat) (s.2 : Nat) p
  simp only [decide_eq_true (validS_N hs1 hs2)] at hM
  refine zvin Tryz.func12 Tryz.ntmps12 ?_
  repeat' (first | refine zka ?_ | refine zkb ?_ | (apply RKp.op; ((try simp (disch := (first | omega | exact zX | exact zO | fail)) only [lnL, go_sem, Nat.reduceDiv, Nat.reduceMod, Nat.reduceAdd, Nat.reduceSub, Nat.reduceEqDiff, Nat.reduceLeDiff, Nat.reduceLT, Nat.reduceMul, reduceIte, Nat.reducePow, Int.reduceEq]); exact zL); rfl) | (apply RKp.callR; (apply hM <;> (exact zD)); rfl; intro tr htr) | refine zkc ?_ | apply RKg.tt | apply RKg.ff | refine zkd ?_ | refine zke ?_ | refine zkf ?_ | (refine RKg.split (fun h => ?_) (fun h => ?_) <;> (try rw [h]) <;> (replace h := zB h) <;> (try (exfalso; first | exact h | omega))) | apply RK.nil | apply V.sq | apply V.bl | apply V.sc | apply V.skip | apply V.label | apply V.ret | apply V.exit | apply SeqQ.normal | apply SeqQ.ret | apply SeqQ.exit | apply BlockQ.normal | apply BlockQ.ret | apply BlockQ.here | refine zbt ?_ | apply LoopS.ret | apply LoopS.exit | apply LoopF.ret | apply LoopF.exit | apply V.regK | refine zvd ?_ | refine zve ?_ | (refine zvf (fun h => ?_) (fun h => ?_) <;> (replace h := zB h) <;> (try (exfalso; first | exact h | omega))) | (refine FnQ.retB (resc Tryz.results12) (by simp (disch := (first | omega | exact zX | exact zO | fail)) only [cellR_op, lnL, go_sem, Nat.reduceDiv, Nat.reduceMod, Nat.reduceAdd, Nat.reduceSub, Nat.reduceEqDiff, Nat.reduceLeDiff, Nat.reduceLT, Nat.reduceMul, reduceIte, Nat.reducePow, Int.reduceEq]; rfl) ?_; (try dsimp only)))
  generalize hHs : (H'.push (spB (s.1 : Nat) (s.2 : Nat) p)).push (spB 0 0 0) = Hs
  have n0 : Hs.next = H'.next + 2 := by rw [← hHs]; rfl
  have g0 : Hs.get H'.next = some (spB (s.1 : Nat) (s.2 : Nat) p) := by rw [← hHs]; simp (disch := (first | omega | exact zX | fail)) only [get_set, get_push, next_push, next_set, if_pos', if_neg', if_true, if_false, reduceIte]
  have g1 : Hs.get (H'.next + 1) = some (spB 0 0 0) := by rw [← hHs]; simp (disch := (first | omega | exact zX | fail)) only [get_set, get_push, next_push, next_set, if_pos', if_neg', if_true, if_false, reduceIte]
  apply V.lpS [6, 5, 7, 17, 18, 19, 20, 21, 22, 23, 24, 25, 26, 27, 28, 29, 30, 31, 32, 33, 34, 35, 36, 37, 38, 39, 40, 41, 42, 43, 44] (fun k xs H2 => ∃ (m : Nat) (b : Int) (g : _), xs = .v (.int .i64 ((m : Int) - 1)) :: .v (.int .i64 b) :: g ∧ k = m ∧ m ≤ s.1 + 1 ∧ H2 = Hs ∧ (m = s.1 + 1 → b = s.2) ∧ ∀ e, Edge false ls e → ltP e s → e.1 < m) (s.1 + 1)
  focus (intro xs; simp only [putMany, set2, Nat.reduceAdd, Nat.reduceDiv, Nat.reduceMod, nth_zero, nth_succ, List.set_cons_zero, List.set_cons_succ]; rfl)
  focus (first | rfl | simp only [readMany, nth_zero, nth_succ, Nat.reduceDiv, Nat.reduceMod])
  · have en0 : ((s.1 + 1 : Nat) : Int) - 1 = (s.1 : Int) := by omega
    refine ⟨s.1 + 1, s.2, _, by rw [en0]; rfl, rfl, Nat.le_refl _, rfl, fun _ => rfl, fun e _ h => ?_⟩
    unfold ltP at h; omega
  · rintro k xs H2 ⟨m, b, g, rfl, hkm, hm, rfl, hb, hno⟩
    by_cases hm0 : m = 0
    · subst hm0
      repeat' (first | refine zka ?_ | refine zkb ?_ | (apply RKp.op; ((try simp (disch := (first | omega | exact zX | exact zO | fail)) only [lnL, g0, g1, go_sem, Nat.reduceDiv, Nat.reduceMod, Nat.reduceAdd, Nat.reduceSub, Nat.reduceEqDiff, Nat.reduceLeDiff, Nat.reduceLT, Nat.reduceMul, reduceIte, Nat.reducePow, Int.reduceEq]); exact zL); rfl) | refine zkc ?_ | apply RKg.tt | apply RKg.ff | refine zkd ?_ | refine zke ?_ | refine zkf ?_ | (refine RKg.split (fun h => ?_) (fun h => ?_) <;> (try rw [h]) <;> (replace h := zB h) <;> (try (exfalso; first | exact h | omega))) | apply RK.nil | apply V.sq | apply V.bl | apply V.sc | apply V.skip | apply V.label | apply V.ret | apply V.exit | apply SeqQ.normal | apply SeqQ.ret | apply SeqQ.exit | apply BlockQ.normal | apply BlockQ.ret | apply BlockQ.here | refine zbt ?_ | apply LoopS.ret | apply LoopS.exit | apply LoopF.ret | apply LoopF.exit | apply V.regK | refine zvd ?_ | refine zve ?_ | (refine zvf (fun h => ?_) (fun h => ?_) <;> (replace h := zB h) <;> (try (exfalso; first | exact h | omega))) | (refine FnQ.retB (resc Tryz.results12) (by simp (disch := (first | omega | exact zX | exact zO | fail)) only [cellR_op, lnL, g0, g1, go_sem, Nat.reduceDiv, Nat.reduceMod, Nat.reduceAdd, Nat.reduceSub, Nat.reduceEqDiff, Nat.reduceLeDiff, Nat.reduceLT, Nat.reduceMul, reduceIte, Nat.reducePow, Int.reduceEq]; rfl) ?_; (try dsimp only)))
      all_goals first
        | (exfalso; omega)
        | skip
      exact ⟨(0, 0), by simp only [frzR_agg, List.map_cons, List.map_nil, frzC_v, spotA]; rfl, .inr ⟨fun e h1 h2 => absurd (hno e h1 h2) (Nat.not_lt_zero _), rfl⟩⟩
    · obtain ⟨n, rfl⟩ : ∃ n, m = n + 1 := ⟨m - 1, by omega⟩
      have en : ((n + 1 : Nat) : Int) - 1 = (n : Int) := by omega
      have hnl : n < ls.length := by omega
      have hln2 := hln n hnl
      rw [en]
      by_cases hns : n < s.1
      · obtain ⟨bf, hbfe⟩ : ∃ bf, bf = (ls.getD n []).length := ⟨_, rfl⟩
        have ec : ((ls.getD n []).length : Int) = (bf : Int) := by omega
        have hbl : bf ≤ (ls.getD n []).length := by omega
        have hbf : ∀ e, Edge false ls e → ltP e s → e.1 = n → e.2 < bf := fun e h1 _ h3 => by
          have := h1.2.1
          rw [h3] at this; omega
        have hlt2 : ∀ j, j < bf → ltP (n, j) s := fun j _ => .inl hns
        repeat' (first | refine zka ?_ | refine zkb ?_ | (apply RKp.op; ((try simp (disch := (first | omega | exact zX | exact zO | fail)) only [lnL, ixLz, ldLz, lnC, g0, g1, en, ec, Int.toNat_natCast, go_sem, Nat.reduceDiv, Nat.reduceMod, Nat.reduceAdd, Nat.reduceSub, Nat.reduceEqDiff, Nat.reduceLeDiff, Nat.reduceLT, Nat.reduceMul, reduceIte, Nat.reducePow, Int.reduceEq]); exact zL); rfl) | refine zkc ?_ | apply RKg.tt | apply RKg.ff | refine zkd ?_ | refine zke ?_ | refine zkf ?_ | (refine RKg.split (fun h => ?_) (fun h => ?_) <;> (try rw [h]) <;> (replace h := zB h) <;> (try (exfalso; first | exact h | omega))) | apply RK.nil | apply V.sq | apply V.bl | apply V.sc | apply V.skip | apply V.label | apply V.ret | apply V.exit | apply SeqQ.normal | apply SeqQ.ret | apply SeqQ.exit | apply BlockQ.normal | apply BlockQ.ret | apply BlockQ.here | refine zbt ?_ | apply LoopS.ret | apply LoopS.exit | apply LoopF.ret | apply LoopF.exit | apply V.regK | refine zvd ?_ | refine zve ?_ | (refine zvf (fun h => ?_) (fun h => ?_) <;> (replace h := zB h) <;> (try (exfalso; first | exact h | omega))) | (refine FnQ.retB (resc Tryz.results12) (by simp (disch := (first | omega | exact zX | exact zO | fail)) only [cellR_op, lnL, ixLz, ldLz, lnC, g0, g1, en, ec, Int.toNat_natCast, go_sem, Nat.reduceDiv, Nat.reduceMod, Nat.reduceAdd, Nat.reduceSub, Nat.reduceEqDiff, Nat.reduceLeDiff, Nat.reduceLT, Nat.reduceMul, reduceIte, Nat.reducePow, Int.reduceEq]; rfl) ?_; (try dsimp only)))
        apply V.lpF [7, 32, 33, 34, 35, 36, 37, 38, 39, 40, 41, 42, 43, 44] (fun k xs => ∃ (q : Nat) (g : _), xs = .v (.int .i64 ((q : Int) - 1)) :: g ∧ k = q ∧ q ≤ bf ∧ ∀ e, Edge false ls e → ltP e s → e.1 = n → e.2 < q) bf
        focus (intro xs; simp only [putMany, set2, Nat.reduceAdd, Nat.reduceDiv, Nat.reduceMod, nth_zero, nth_succ, List.set_cons_zero, List.set_cons_succ]; rfl)
        focus (first | rfl | simp only [readMany, nth_zero, nth_succ, Nat.reduceDiv, Nat.reduceMod])
        · exact ⟨bf, _, rfl, rfl, Nat.le_refl _, hbf⟩
        · rintro k xs ⟨q, g, rfl, hkq, hq, hnq⟩
          by_cases hq0 : q = 0
          · subst hq0
            repeat' (first | refine zka ?_ | refine zkb ?_ | (apply RKp.op; ((try simp (disch := (first | omega | exact zX | exact zO | fail)) only [lnL, Int.toNat_natCast, go_sem, Nat.reduceDiv, Nat.reduceMod, Nat.reduceAdd, Nat.reduceSub, Nat.reduceEqDiff, Nat.reduceLeDiff, Nat.reduceLT, Nat.reduceMul, reduceIte, Nat.reducePow, Int.reduceEq]); exact zL); rfl) | refine zkc ?_ | apply RKg.tt | apply RKg.ff | refine zkd ?_ | refine zke ?_ | refine zkf ?_ | (refine RKg.split (fun h => ?_) (fun h => ?_) <;> (try rw [h]) <;> (replace h := zB h) <;> (try (exfalso; first | exact h | omega))) | apply RK.nil | apply V.sq | apply V.bl | apply V.sc | apply V.skip | apply V.label | apply V.ret | apply V.exit | apply SeqQ.normal | apply SeqQ.ret | apply SeqQ.exit | apply BlockQ.normal | apply BlockQ.ret | apply BlockQ.here | refine zbt ?_ | apply LoopS.ret | apply LoopS.exit | apply LoopF.ret | apply LoopF.exit | apply V.regK | refine zvd ?_ | refine zve ?_ | (refine zvf (fun h => ?_) (fun h => ?_) <;> (replace h := zB h) <;> (try (exfalso; first | exact h | omega))) | (refine FnQ.retB (resc Tryz.results12) (by simp (disch := (first | omega | exact zX | exact zO | fail)) only [cellR_op, lnL, Int.toNat_natCast, go_sem, Nat.reduceDiv, Nat.reduceMod, Nat.reduceAdd, Nat.reduceSub, Nat.reduceEqDiff, Nat.reduceLeDiff, Nat.reduceLT, Nat.reduceMul, reduceIte, Nat.reducePow, Int.reduceEq]; rfl) ?_; (try dsimp only)))
            all_goals first
              | (exfalso; omega)
              | skip
            refine LoopS.again n (by rfl) (by omega) ⟨n, _, _, rfl, rfl, by omega, rfl, fun z => by omega, fun e h1 h2 => ?_⟩
            have h3 := hno e h1 h2
            rcases Nat.lt_or_ge e.1 n with y | y
            · exact y
            · exact absurd (hnq e h1 h2 (by omega)) (Nat.not_lt_zero _)
          · have hil : q - 1 < (ls.getD n []).length := by omega
            have eq1 : ((q : Int) - 1) = ((q - 1 : Nat) : Int) := by omega
            have hF := fun ys G => begins_run (ys := ys) (lo := lo') (H := G) (hr.sl n hnl) (hr.lt n hnl) (q - 1) hil
            by_cases he : begP (ls.getD n []) (q - 1)
            · simp only [decide_eq_true he] at hF
              repeat' (first | refine zka ?_ | refine zkb ?_ | (apply RKp.op; ((try simp (disch := (first | omega | exact zX | exact zO | fail)) only [lnL, ixLz, ldLz, lnC, g0, g1, en, eq1, Int.toNat_natCast, go_sem, Nat.reduceDiv, Nat.reduceMod, Nat.reduceAdd, Nat.reduceSub, Nat.reduceEqDiff, Nat.reduceLeDiff, Nat.reduceLT, Nat.reduceMul, reduceIte, Nat.reducePow, Int.reduceEq]); exact zL); rfl) | (apply RKp.callR; (apply hF <;> (exact zD)); rfl; intro tr htr) | refine zkc ?_ | apply RKg.tt | apply RKg.ff | refine zkd ?_ | refine zke ?_ | refine zkf ?_ | (refine RKg.split (fun h => ?_) (fun h => ?_) <;> (try rw [h]) <;> (replace h := zB h) <;> (try (exfalso; first | exact h | omega))) | apply RK.nil | apply V.sq | apply V.bl | apply V.sc | apply V.skip | apply V.label | apply V.ret | apply V.exit | apply SeqQ.normal | apply SeqQ.ret | apply SeqQ.exit | apply BlockQ.normal | apply BlockQ.ret | apply BlockQ.here | refine zbt ?_ | apply LoopS.ret | apply LoopS.exit | apply LoopF.ret | apply LoopF.exit | apply V.regK | refine zvd ?_ | refine zve ?_ | (refine zvf (fun h => ?_) (fun h => ?_) <;> (replace h := zB h) <;> (try (exfalso; first | exact h | omega))) | (refine FnQ.retB (resc Tryz.results12) (by simp (disch := (first | omega | exact zX | exact zO | fail)) only [cellR_op, lnL, ixLz, ldLz, lnC, g0, g1, en, eq1, Int.toNat_natCast, go_sem, Nat.reduceDiv, Nat.reduceMod, Nat.reduceAdd, Nat.reduceSub, Nat.reduceEqDiff, Nat.reduceLeDiff, Nat.reduceLT, Nat.reduceMul, reduceIte, Nat.reducePow, Int.reduceEq]; rfl) ?_; (try dsimp only)))
              all_goals first
                | (exfalso; omega)
                | skip
              refine ⟨(n, q - 1), by simp only [frzR_agg, List.map_cons, List.map_nil, frzC_v, spotA], .inl ⟨⟨hnl, hil, he⟩, hlt2 (q - 1) (by omega), fun e h1 h2 h3 => ?_⟩⟩
              have h4 := hno e h1 h2
              rcases h3 with h3 | ⟨h3, h5⟩
              · dsimp only at h3; omega
              · dsimp only at h3 h5
                have := hnq e h1 h2 h3.symm
                omega
            · simp only [decide_eq_false he] at hF
              repeat' (first | refine zka ?_ | refine zkb ?_ | (apply RKp.op; ((try simp (disch := (first | omega | exact zX | exact zO | fail)) only [lnL, ixLz, ldLz, lnC, g0, g1, en, eq1, Int.toNat_natCast, go_sem, Nat.reduceDiv, Nat.reduceMod, Nat.reduceAdd, Nat.reduceSub, Nat.reduceEqDiff, Nat.reduceLeDiff, Nat.reduceLT, Nat.reduceMul, reduceIte, Nat.reducePow, Int.reduceEq]); exact zL); rfl) | (apply RKp.callR; (apply hF <;> (exact zD)); rfl; intro tr htr) | refine zkc ?_ | apply RKg.tt | apply RKg.ff | refine zkd ?_ | refine zke ?_ | refine zkf ?_ | (refine RKg.split (fun h => ?_) (fun h => ?_) <;> (try rw [h]) <;> (replace h := zB h) <;> (try (exfalso; first | exact h | omega))) | apply RK.nil | apply V.sq | apply V.bl | apply V.sc | apply V.skip | apply V.label | apply V.ret | apply V.exit | apply SeqQ.normal | apply SeqQ.ret | apply SeqQ.exit | apply BlockQ.normal | apply BlockQ.ret | apply BlockQ.here | refine zbt ?_ | apply LoopS.ret | apply LoopS.exit | apply LoopF.ret | apply LoopF.exit | apply V.regK | refine zvd ?_ | refine zve ?_ | (refine zvf (fun h => ?_) (fun h => ?_) <;> (replace h := zB h) <;> (try (exfalso; first | exact h | omega))) | (refine FnQ.retB (resc Tryz.results12) (by simp (disch := (first | omega | exact zX | exact zO | fail)) only [cellR_op, lnL, ixLz, ldLz, lnC, g0, g1, en, eq1, Int.toNat_natCast, go_sem, Nat.reduceDiv, Nat.reduceMod, Nat.reduceAdd, Nat.reduceSub, Nat.reduceEqDiff, Nat.reduceLeDiff, Nat.reduceLT, Nat.reduceMul, reduceIte, Nat.reducePow, Int.reduceEq]; rfl) ?_; (try dsimp only)))
              all_goals first
                | (exfalso; omega)
                | skip
              refine LoopF.again (q - 1) (by rfl) (by omega) ⟨q - 1, _, by first | rfl | (rw [eq1]; rfl), rfl, by omega, fun e h1 h2 h3 => ?_⟩
              have h4 := hnq e h1 h2 h3
              rcases Nat.lt_or_ge e.2 (q - 1) with y | y
              · exact y
              · exfalso
                have e2 : e.2 = q - 1 := by omega
                have h5 := h1.2.2
                rw [h3, e2] at h5
                exact he h5
      · have hn1 : n = s.1 := by omega
        obtain ⟨bf, hbfe⟩ : ∃ bf, bf = s.2 := ⟨_, rfl⟩
        have hb2 := hb (by omega)
        subst hb2
        have ec : (s.2 : Int) = (bf : Int) := by omega
        have hbl : bf ≤ (ls.getD n []).length := by rw [hn1]; omega
        have hbf : ∀ e, Edge false ls e → ltP e s → e.1 = n → e.2 < bf := fun e h1 h2 h3 => by
          unfold ltP at h2; omega
        have hlt2 : ∀ j, j < bf → ltP (n, j) s := fun j hj => .inr ⟨hn1, by dsimp only; omega⟩
        repeat' (first | refine zka ?_ | refine zkb ?_ | (apply RKp.op; ((try simp (disch := (first | omega | exact zX | exact zO | fail)) only [lnL, ixLz, ldLz, lnC, g0, g1, en, ec, Int.toNat_natCast, go_sem, Nat.reduceDiv, Nat.reduceMod, Nat.reduceAdd, Nat.reduceSub, Nat.reduceEqDiff, Nat.reduceLeDiff, Nat.reduceLT, Nat.reduceMul, reduceIte, Nat.reducePow, Int.reduceEq]); exact zL); rfl) | refine zkc ?_ | apply RKg.tt | apply RKg.ff | refine zkd ?_ | refine zke ?_ | refine zkf ?_ | (refine RKg.split (fun h => ?_) (fun h => ?_) <;> (try rw [h]) <;> (replace h := zB h) <;> (try (exfalso; first | exact h | omega))) | apply RK.nil | apply V.sq | apply V.bl | apply V.sc | apply V.skip | apply V.label | apply V.ret | apply V.exit | apply SeqQ.normal | apply SeqQ.ret | apply SeqQ.exit | apply BlockQ.normal | apply BlockQ.ret | apply BlockQ.here | refine zbt ?_ | apply LoopS.ret | apply LoopS.exit | apply LoopF.ret | apply LoopF.exit | apply V.regK | refine zvd ?_ | refine zve ?_ | (refine zvf (fun h => ?_) (fun h => ?_) <;> (replace h := zB h) <;> (try (exfalso; first | exact h | omega))) | (refine FnQ.retB (resc Tryz.results12) (by simp (disch := (first | omega | exact zX | exact zO | fail)) only [cellR_op, lnL, ixLz, ldLz, lnC, g0, g1, en, ec, Int.toNat_natCast, go_sem, Nat.reduceDiv, Nat.reduceMod, Nat.reduceAdd, Nat.reduceSub, Nat.reduceEqDiff, Nat.reduceLeDiff, Nat.reduceLT, Nat.reduceMul, reduceIte, Nat.reducePow, Int.reduceEq]; rfl) ?_; (try dsimp only)))
        apply V.lpF [7, 32, 33, 34, 35, 36, 37, 38, 39, 40, 41, 42, 43, 44] (fun k xs => ∃ (q : Nat) (g : _), xs = .v (.int .i64 ((q : Int) - 1)) :: g ∧ k = q ∧ q ≤ bf ∧ ∀ e, Edge false ls e → ltP e s → e.1 = n → e.2 < q) bf
        focus (intro xs; simp only [putMany, set2, Nat.reduceAdd, Nat.reduceDiv, Nat.reduceMod, nth_zero, nth_succ, List.set_cons_zero, List.set_cons_succ]; rfl)
        focus (first | rfl | simp only [readMany, nth_zero, nth_succ, Nat.reduceDiv, Nat.reduceMod])
        · exact ⟨bf, _, rfl, rfl, Nat.le_refl _, hbf⟩
        · rintro k xs ⟨q, g, rfl, hkq, hq, hnq⟩
          by_cases hq0 : q = 0
          · subst hq0
            repeat' (first | refine zka ?_ | refine zkb ?_ | (apply RKp.op; ((try simp (disch := (first | omega | exact zX | exact zO | fail)) only [lnL, Int.toNat_natCast, go_sem, Nat.reduceDiv, Nat.reduceMod, Nat.reduceAdd, Nat.reduceSub, Nat.reduceEqDiff, Nat.reduceLeDiff, Nat.reduceLT, Nat.reduceMul, reduceIte, Nat.reducePow, Int.reduceEq]); exact zL); rfl) | refine zkc ?_ | apply RKg.tt | apply RKg.ff | refine zkd ?_ | refine zke ?_ | refine zkf ?_ | (refine RKg.split (fun h => ?_) (fun h => ?_) <;> (try rw [h]) <;> (replace h := zB h) <;> (try (exfalso; first | exact h | omega))) | apply RK.nil | apply V.sq | apply V.bl | apply V.sc | apply V.skip | apply V.label | apply V.ret | apply V.exit | apply SeqQ.normal | apply SeqQ.ret | apply SeqQ.exit | apply BlockQ.normal | apply BlockQ.ret | apply BlockQ.here | refine zbt ?_ | apply LoopS.ret | apply LoopS.exit | apply LoopF.ret | apply LoopF.exit | apply V.regK | refine zvd ?_ | refine zve ?_ | (refine zvf (fun h => ?_) (fun h => ?_) <;> (replace h := zB h) <;> (try (exfalso; first | exact h | omega))) | (refine FnQ.retB (resc Tryz.results12) (by simp (disch := (first | omega | exact zX | exact zO | fail)) only [cellR_op, lnL, Int.toNat_natCast, go_sem, Nat.reduceDiv, Nat.reduceMod, Nat.reduceAdd, Nat.reduceSub, Nat.reduceEqDiff, Nat.reduceLeDiff, Nat.reduceLT, Nat.reduceMul, reduceIte, Nat.reducePow, Int.reduceEq]; rfl) ?_; (try dsimp only)))
            all_goals first
              | (exfalso; omega)
              | skip
            refine LoopS.again n (by rfl) (by omega) ⟨n, _, _, rfl, rfl, by omega, rfl, fun z => by omega, fun e h1 h2 => ?_⟩
            have h3 := hno e h1 h2
            rcases Nat.lt_or_ge e.1 n with y | y
            · exact y
            · exact absurd (hnq e h1 h2 (by omega)) (Nat.not_lt_zero _)
          · have hil : q - 1 < (ls.getD n []).length := by omega
            have eq1 : ((q : Int) - 1) = ((q - 1 : Nat) : Int) := by omega
            have hF := fun ys G => begins_run (ys := ys) (lo := lo') (H := G) (hr.sl n hnl) (hr.lt n hnl) (q - 1) hil
            by_cases he : begP (ls.getD n []) (q - 1)
            · simp only [decide_eq_true he] at hF
              repeat' (first | refine zka ?_ | refine zkb ?_ | (apply RKp.op; ((try simp (disch := (first | omega | exact zX | exact zO | fail)) only [lnL, ixLz, ldLz, lnC, g0, g1, en, eq1, Int.toNat_natCast, go_sem, Nat.reduceDiv, Nat.reduceMod, Nat.reduceAdd, Nat.reduceSub, Nat.reduceEqDiff, Nat.reduceLeDiff, Nat.reduceLT, Nat.reduceMul, reduceIte, Nat.reducePow, Int.reduceEq]); exact zL); rfl) | (apply RKp.callR; (apply hF <;> (exact zD)); rfl; intro tr htr) | refine zkc ?_ | apply RKg.tt | apply RKg.ff | refine zkd ?_ | refine zke ?_ | refine zkf ?_ | (refine RKg.split (fun h => ?_) (fun h => ?_) <;> (try rw [h]) <;> (replace h := zB h) <;> (try (exfalso; first | exact h | omega))) | apply RK.nil | apply V.sq | apply V.bl | apply V.sc | apply V.skip | apply V.label | apply V.ret | apply V.exit | apply SeqQ.normal | apply SeqQ.ret | apply SeqQ.exit | apply BlockQ.normal | apply BlockQ.ret | apply BlockQ.here | refine zbt ?_ | apply LoopS.ret | apply LoopS.exit | apply LoopF.ret | apply LoopF.exit | apply V.regK | refine zvd ?_ | refine zve ?_ | (refine zvf (fun h => ?_) (fun h => ?_) <;> (replace h := zB h) <;> (try (exfalso; first | exact h | omega))) | (refine FnQ.retB (resc Tryz.results12) (by simp (disch := (first | omega | exact zX | exact zO | fail)) only [cellR_op, lnL, ixLz, ldLz, lnC, g0, g1, en, eq1, Int.toNat_natCast, go_sem, Nat.reduceDiv, Nat.reduceMod, Nat.reduceAdd, Nat.reduceSub, Nat.reduceEqDiff, Nat.reduceLeDiff, Nat.reduceLT, Nat.reduceMul, reduceIte, Nat.reducePow, Int.reduceEq]; rfl) ?_; (try dsimp only)))
              all_goals first
                | (exfalso; omega)
                | skip
              refine ⟨(n, q - 1), by simp only [frzR_agg, List.map_cons, List.map_nil, frzC_v, spotA], .inl ⟨⟨hnl, hil, he⟩, hlt2 (q - 1) (by omega), fun e h1 h2 h3 => ?_⟩⟩
              have h4 := hno e h1 h2
              rcases h3 with h3 | ⟨h3, h5⟩
              · dsimp only at h3; omega
              · dsimp only at h3 h5
                have := hnq e h1 h2 h3.symm
                omega
            · simp only [decide_eq_false he] at hF
              repeat' (first | refine zka ?_ | refine zkb ?_ | (apply RKp.op; ((try simp (disch := (first | omega | exact zX | exact zO | fail)) only [lnL, ixLz, ldLz, lnC, g0, g1, en, eq1, Int.toNat_natCast, go_sem, Nat.reduceDiv, Nat.reduceMod, Nat.reduceAdd, Nat.reduceSub, Nat.reduceEqDiff, Nat.reduceLeDiff, Nat.reduceLT, Nat.reduceMul, reduceIte, Nat.reducePow, Int.reduceEq]); exact zL); rfl) | (apply RKp.callR; (apply hF <;> (exact zD)); rfl; intro tr htr) | refine zkc ?_ | apply RKg.tt | apply RKg.ff | refine zkd ?_ | refine zke ?_ | refine zkf ?_ | (refine RKg.split (fun h => ?_) (fun h => ?_) <;> (try rw [h]) <;> (replace h := zB h) <;> (try (exfalso; first | exact h | omega))) | apply RK.nil | apply V.sq | apply V.bl | apply V.sc | apply V.skip | apply V.label | apply V.ret | apply V.exit | apply SeqQ.normal | apply SeqQ.ret | apply SeqQ.exit | apply BlockQ.normal | apply BlockQ.ret | apply BlockQ.here | refine zbt ?_ | apply LoopS.ret | apply LoopS.exit | apply LoopF.ret | apply LoopF.exit | apply V.regK | refine zvd ?_ | refine zve ?_ | (refine zvf (fun h => ?_) (fun h => ?_) <;> (replace h := zB h) <;> (try (exfalso; first | exact h | omega))) | (refine FnQ.retB (resc Tryz.results12) (by simp (disch := (first | omega | exact zX | exact zO | fail)) only [cellR_op, lnL, ixLz, ldLz, lnC, g0, g1, en, eq1, Int.toNat_natCast, go_sem, Nat.reduceDiv, Nat.reduceMod, Nat.reduceAdd, Nat.reduceSub, Nat.reduceEqDiff, Nat.reduceLeDiff, Nat.reduceLT, Nat.reduceMul, reduceIte, Nat.reducePow, Int.reduceEq]; rfl) ?_; (try dsimp only)))
              all_goals first
                | (exfalso; omega)
                | skip
              refine LoopF.again (q - 1) (by rfl) (by omega) ⟨q - 1, _, by first | rfl | (rw [eq1]; rfl), rfl, by omega, fun e h1 h2 h3 => ?_⟩
              have h4 := hnq e h1 h2 h3
              rcases Nat.lt_or_ge e.2 (q - 1) with y | y
              · exact y
              · exfalso
                have e2 : e.2 = q - 1 := by omega
                have h5 := h1.2.2
                rw [h3, e2] at h5
                exact he h5
end
end Go.Am
