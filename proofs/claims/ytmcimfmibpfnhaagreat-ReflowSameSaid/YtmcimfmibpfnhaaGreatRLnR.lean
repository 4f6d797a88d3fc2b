
/- ReflowSame: rows have the same lines, or not. -/
import Derived.Test.YtmcimfmibpfnhaaGreatRLnQ
import Derived.Test.YtmcimfmibpfnhaaGreatRLnJ
import Derived.Test.YtmcimfmibpfnhaaGreatRLnE
set_option linter.all false
set_option linter.deprecated false
namespace Go.Am
variable {oc : Orc} [OrcI oc]
open Go.Proofs
set_option maxRecDepth 100000
set_option maxHeartbeats 8000000
section
variable {A B : AV} {es fs : List (List AV)} {a b : List Rw}
theorem ReflowSame_law (hbe : ∀ ys lo H, CallR (ELo oc) ys lo 22 [] H (.v (.bool true)) H ⟨0, 0, 0⟩) (hA : Sl 2 A es) (hl : es.length < 2 ^ 63) (hE : RsB es a) (hB : Sl 2 B fs) (hl2 : fs.length < 2 ^ 63) (hF : RsB fs b) : WC (ELo oc) [] 0 15 [A, B] .empty fun x _ => x = .v (.bool true) := by
  generalize hEm : AHeap.empty = H0
  have hRa := fun ys G => Rows_run (ys := ys) (lo := 0) (H := G) (.inl hA) hE hl
  have hRb := fun ys G => Rows_run (ys := ys) (lo := 0) (H := G) (.inl hB) hF hl2
  refine zvin Tryz.func15 Tryz.ntmps15 ?_
  repeat' (first
   | refine zka ?_
   | refine zkb ?_
   | (apply RKp.op; ((try simp (disch := (first | omega | exact zX | exact zO | fail)) only [go_sem, Nat.reduceDiv, Nat.reduceMod, Nat.reduceAdd, Nat.reduceSub, Nat.reduceEqDiff, Nat.reduceLeDiff, Nat.reduceLT, Nat.reduceMul, reduceIte, Nat.reducePow, Int.reduceEq]); exact zL); rfl)
   | (apply RKp.call; (apply hbe <;> (exact zD)); rfl)
   | (apply RKp.callR; (apply hbe <;> (exact zD)); rfl; intro tr htr)
   | (apply RKp.callO; (apply hbe <;> (exact zD)); rfl; intro tr)
   | (apply RKp.callRE; (apply hbe <;> (exact zD)); (intro x; rfl))
   | (apply RKp.callE; (apply hbe <;> (exact zD)); (intro x; rfl))
   | (apply RKp.callNE; ((first | apply hRa | apply hRb) <;> (exact zD)); (intro x; rfl))
   | refine zkc ?_
   | apply RKg.tt
   | apply RKg.ff
   | refine zkd ?_
   | refine zke ?_
   | refine zkf ?_
   | (refine RKg.split (fun h => ?_) (fun h => ?_) <;> (try rw [h]) <;> (replace h := zB h) <;> (try (exfalso; first | exact h | omega)))
   | apply RK.nil
   | apply V.sq
   | apply V.bl
   | apply V.sc
   | apply V.skip
   | apply V.label
   | apply V.ret
   | apply V.exit
   | apply SeqQ.normal
   | apply SeqQ.ret
   | apply SeqQ.exit
   | apply BlockQ.normal
   | apply BlockQ.ret
   | apply BlockQ.here
   | refine zbt ?_
   | apply LoopS.ret
   | apply LoopS.exit
   | apply LoopF.ret
   | apply LoopF.exit
   | apply V.regK
   | refine zvd ?_
   | refine zve ?_
   | (refine zvf (fun h => ?_) (fun h => ?_) <;> (replace h := zB h) <;> (try (exfalso; first | exact h | omega)))
    | (refine zfc Tryz.results15 ?_; (try dsimp only)))
  rintro x H1 tr htr ⟨es1, ho1, hr1, hx1, -⟩
  have hn1 := hx1.next
  repeat' (first
   | refine zka ?_
   | refine zkb ?_
   | (apply RKp.op; ((try simp (disch := (first | omega | exact zX | exact zO | fail)) only [go_sem, Nat.reduceDiv, Nat.reduceMod, Nat.reduceAdd, Nat.reduceSub, Nat.reduceEqDiff, Nat.reduceLeDiff, Nat.reduceLT, Nat.reduceMul, reduceIte, Nat.reducePow, Int.reduceEq]); exact zL); rfl)
   | (apply RKp.callNE; (apply hRb <;> (exact zD)); (intro x; rfl))
   | refine zkc ?_
   | apply RKg.tt
   | apply RKg.ff
   | refine zkd ?_
   | refine zke ?_
   | refine zkf ?_
   | (refine RKg.split (fun h => ?_) (fun h => ?_) <;> (try rw [h]) <;> (replace h := zB h) <;> (try (exfalso; first | exact h | omega)))
   | apply RK.nil
   | apply V.sq
   | apply V.bl
   | apply V.sc
   | apply V.skip
   | apply V.label
   | apply V.ret
   | apply V.exit
   | apply SeqQ.normal
   | apply SeqQ.ret
   | apply SeqQ.exit
   | apply BlockQ.normal
   | apply BlockQ.ret
   | apply BlockQ.here
   | refine zbt ?_
   | apply LoopS.ret
   | apply LoopS.exit
   | apply LoopF.ret
   | apply LoopF.exit
   | apply V.regK
   | refine zvd ?_
   | refine zve ?_
   | (refine zvf (fun h => ?_) (fun h => ?_) <;> (replace h := zB h) <;> (try (exfalso; first | exact h | omega)))
    | (refine zfc Tryz.results15 ?_; (try dsimp only)))
  rintro y H2 tr2 htr2 ⟨es2, ho2, hr2, hx2, -⟩
  have hla := rowsT_len a
  have hlb := rowsT_len b
  generalize rowsT a = ra at *
  generalize rowsT b = rb at *
  have hX : SlH H2 2 x es1 := ho1.slh.ext hx2
  have hY : SlH H2 2 y es2 := ho2.slh
  have hja : (joinL ra).length ≤ ra.length := joinG_le ra []
  have hjb : (joinL rb).length ≤ rb.length := joinG_le rb []
  have hS := fun ys => Same_run (ys := ys) (lo := 0) hX hr1 hY hr2 (by omega) (by omega)
  have hSa := fun ys => Same_run (ys := ys) (lo := 0) hX hr1 hX hr1 (by omega) (by omega)
  simp only [decide_eq_true (rfl : joinL ra = joinL ra)] at hSa
  have hJ := fun ys => refJoin_run (ys := ys) (lo := 0) hX hr1 (by omega)
  have hK := fun ys => refJoin_run (ys := ys) (lo := 0) hY hr2 (by omega)
  generalize hq : decide (joinL ra = joinL rb) = q at *
  repeat' (first
   | refine zka ?_
   | refine zkb ?_
   | (apply RKp.op; ((try simp (disch := (first | omega | exact zX | exact zO | fail)) only [go_sem, Nat.reduceDiv, Nat.reduceMod, Nat.reduceAdd, Nat.reduceSub, Nat.reduceEqDiff, Nat.reduceLeDiff, Nat.reduceLT, Nat.reduceMul, reduceIte, Nat.reducePow, Int.reduceEq]); exact zL); rfl)
   | (apply RKp.callR; (apply hS <;> (exact zD)); rfl; intro tr htr)
   | (apply RKp.callRE; (apply hJ <;> (exact zD)); (intro x; rfl))
   | refine zkc ?_
   | apply RKg.tt
   | apply RKg.ff
   | refine zkd ?_
   | refine zke ?_
   | refine zkf ?_
   | (refine RKg.split (fun h => ?_) (fun h => ?_) <;> (try rw [h]) <;> (replace h := zB h) <;> (try (exfalso; first | exact h | omega)))
   | apply RK.nil
   | apply V.sq
   | apply V.bl
   | apply V.sc
   | apply V.skip
   | apply V.label
   | apply V.ret
   | apply V.exit
   | apply SeqQ.normal
   | apply SeqQ.ret
   | apply SeqQ.exit
   | apply BlockQ.normal
   | apply BlockQ.ret
   | apply BlockQ.here
   | refine zbt ?_
   | apply LoopS.ret
   | apply LoopS.exit
   | apply LoopF.ret
   | apply LoopF.exit
   | apply V.regK
   | refine zvd ?_
   | refine zve ?_
   | (refine zvf (fun h => ?_) (fun h => ?_) <;> (replace h := zB h) <;> (try (exfalso; first | exact h | omega)))
    | (refine zfc Tryz.results15 ?_; (try dsimp only)))
  rintro u tr3 htr3 ⟨ls5, hu, hl5⟩
  repeat' (first
   | refine zka ?_
   | refine zkb ?_
   | (apply RKp.op; ((try simp (disch := (first | omega | exact zX | exact zO | fail)) only [go_sem, Nat.reduceDiv, Nat.reduceMod, Nat.reduceAdd, Nat.reduceSub, Nat.reduceEqDiff, Nat.reduceLeDiff, Nat.reduceLT, Nat.reduceMul, reduceIte, Nat.reducePow, Int.reduceEq]); exact zL); rfl)
   | (apply RKp.callRE; (apply hK <;> (exact zD)); (intro x; rfl))
   | refine zkc ?_
   | apply RKg.tt
   | apply RKg.ff
   | refine zkd ?_
   | refine zke ?_
   | refine zkf ?_
   | (refine RKg.split (fun h => ?_) (fun h => ?_) <;> (try rw [h]) <;> (replace h := zB h) <;> (try (exfalso; first | exact h | omega)))
   | apply RK.nil
   | apply V.sq
   | apply V.bl
   | apply V.sc
   | apply V.skip
   | apply V.label
   | apply V.ret
   | apply V.exit
   | apply SeqQ.normal
   | apply SeqQ.ret
   | apply SeqQ.exit
   | apply BlockQ.normal
   | apply BlockQ.ret
   | apply BlockQ.here
   | refine zbt ?_
   | apply LoopS.ret
   | apply LoopS.exit
   | apply LoopF.ret
   | apply LoopF.exit
   | apply V.regK
   | refine zvd ?_
   | refine zve ?_
   | (refine zvf (fun h => ?_) (fun h => ?_) <;> (replace h := zB h) <;> (try (exfalso; first | exact h | omega)))
    | (refine zfc Tryz.results15 ?_; (try dsimp only)))
  rintro v tr4 htr4 ⟨ls6, hv, hl6⟩
  have hEq := fun ys => eq_run (ys := ys) (lo := 0) (H := H2) (.inl hu) hl5 (.inl hv) hl6 (by omega) (by omega)
  simp only [hq] at hEq
  repeat' (first
   | refine zka ?_
   | refine zkb ?_
   | (apply RKp.op; ((try simp (disch := (first | omega | exact zX | exact zO | fail)) only [go_sem, Nat.reduceDiv, Nat.reduceMod, Nat.reduceAdd, Nat.reduceSub, Nat.reduceEqDiff, Nat.reduceLeDiff, Nat.reduceLT, Nat.reduceMul, reduceIte, Nat.reducePow, Int.reduceEq]); exact zL); rfl)
   | (apply RKp.callR; ((first | apply hEq | apply hSa) <;> (exact zD)); rfl; intro tr htr)
   | refine zkc ?_
   | apply RKg.tt
   | apply RKg.ff
   | refine zkd ?_
   | refine zke ?_
   | refine zkf ?_
   | (refine RKg.split (fun h => ?_) (fun h => ?_) <;> (try rw [h]) <;> (replace h := zB h) <;> (try (exfalso; first | exact h | omega)))
   | apply RK.nil
   | apply V.sq
   | apply V.bl
   | apply V.sc
   | apply V.skip
   | apply V.label
   | apply V.ret
   | apply V.exit
   | apply SeqQ.normal
   | apply SeqQ.ret
   | apply SeqQ.exit
   | apply BlockQ.normal
   | apply BlockQ.ret
   | apply BlockQ.here
   | refine zbt ?_
   | apply LoopS.ret
   | apply LoopS.exit
   | apply LoopF.ret
   | apply LoopF.exit
   | apply V.regK
   | refine zvd ?_
   | refine zve ?_
   | (refine zvf (fun h => ?_) (fun h => ?_) <;> (replace h := zB h) <;> (try (exfalso; first | exact h | omega)))
    | (refine zfc Tryz.results15 ?_; (try dsimp only)))
  all_goals first
    | rfl
    | (exfalso; simp at h; done)
    | trace_state
end
theorem ReflowSame_run (v : List AV) (hv : Wd Tryz.prog 6 22 v) (u : List AV) (hu : Wd Tryz.prog 6 22 u) : WC EF [] 0 15 [v.getD 0 .dead, u.getD 0 .dead] .empty fun x _ => x = .v (.bool true) := by
  obtain ⟨A, es, a, rfl, hA, hlen, hE⟩ := wd_rowsS (d := 1) hv
  obtain ⟨B, fs, b, rfl, hB, hlen2, hF⟩ := wd_rowsS (d := 1) hu
  exact ReflowSame_law (fun ys lo H => begun_F) hA hlen hE hB hlen2 hF
end Go.Am
