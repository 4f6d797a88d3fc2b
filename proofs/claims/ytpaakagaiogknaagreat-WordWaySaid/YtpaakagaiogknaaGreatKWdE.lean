
/- Words: the laws. -/
import Derived.Test.YtpaakagaiogknaaGreatKWdD
import Derived.Test.YtpaakagaiogknaaGreatKLinZ
set_option linter.all false
set_option linter.deprecated false
namespace Go.Am
variable {oc : Orc} [OrcI oc]
open Go.Proofs
set_option maxRecDepth 8000
set_option maxHeartbeats 8000000
theorem lines_bd (ls : List (List Ce)) : (linesL ls).length < 2 ^ 20 ∧ ∀ j, j < (linesL ls).length → ((linesL ls).getD j []).length ≤ 40 := by
  refine ⟨by have := linesL_len ls; omega, fun j hj => (linesL_G (ls := ls) _ ?_).2⟩
  rw [List.getD_eq_getElem?_getD, List.getElem?_eq_getElem hj]; exact List.getElem_mem hj
section
variable {A : AV} {es : List (List AV)} {ls : List (List Ce)}
theorem WordAll_law (hbe : ∀ ys lo H, CallR (ELo oc) ys lo 8 [] H (.v (.bool true)) H ⟨0, 0, 0⟩) (hA : Sl 1 A es) (hB : LsB es ls) (hl : es.length < 2 ^ 63) (a b p r w c : Int) : WC (ELo oc) [] 0 3 [A, .agg [.v (.int .i64 a), .v (.int .i64 b), .v (.int .i64 p)], .agg [.v (.int .i32 r), .v (.int .i64 w), .v (.int .i64 c)]] .empty fun x _ => x = .v (.bool true) := by
  generalize hEm : AHeap.empty = H0
  have hLs := fun ys G => Lines_run (ys := ys) (lo := 0) (H := G) (.inl hA) hB hl
  refine zvin Tryz.func3 Tryz.ntmps3 ?_
  repeat' (first | refine zka ?_ | refine zkb ?_ | (apply RKp.op; ((try simp (disch := (first | omega | exact zX | exact zO | fail)) only [go_sem, Nat.reduceDiv, Nat.reduceMod, Nat.reduceAdd, Nat.reduceSub, Nat.reduceEqDiff, Nat.reduceLeDiff, Nat.reduceLT, Nat.reduceMul, reduceIte, Nat.reducePow, Int.reduceEq]); exact zL); rfl) | (apply RKp.call; (apply hbe <;> (exact zD)); rfl) | (apply RKp.callR; (apply hbe <;> (exact zD)); rfl; intro tr htr) | (apply RKp.callO; (apply hbe <;> (exact zD)); rfl; intro tr) | (apply RKp.callRE; ((first | apply hbe | apply hLs) <;> (exact zD)); (intro x; rfl)) | (apply RKp.callE; (apply hbe <;> (exact zD)); (intro x; rfl)) | refine zkc ?_ | apply RKg.tt | apply RKg.ff | refine zkd ?_ | refine zke ?_ | refine zkf ?_ | (refine RKg.split (fun h => ?_) (fun h => ?_) <;> (try rw [h]) <;> (replace h := zB h) <;> (try (exfalso; first | exact h | omega))) | apply RK.nil | apply V.sq | apply V.bl | apply V.sc | apply V.skip | apply V.label | apply V.ret | apply V.exit | apply SeqQ.normal | apply SeqQ.ret | apply SeqQ.exit | apply BlockQ.normal | apply BlockQ.ret | apply BlockQ.here | refine zbt ?_ | apply LoopS.ret | apply LoopS.exit | apply LoopF.ret | apply LoopF.exit | apply V.regK | refine zva ?_ | refine zvb ?_ | refine zgc ?_ | refine zvd ?_ | refine zve ?_ | (refine zvf (fun h => ?_) (fun h => ?_) <;> (replace h := zB h) <;> (try (exfalso; first | exact h | omega))) | (refine zfc Tryz.results3 ?_; (try dsimp only)))
  rintro x tr htr ⟨es', hx, hls⟩
  obtain ⟨hl1, hl2⟩ := lines_bd ls
  generalize linesL ls = L at *
  have hl3 : ∀ j, j < L.length → (L.getD j []).length < 2 ^ 20 := fun j hj => by have := hl2 j hj; omega
  by_cases hv : validS L a b
  · obtain ⟨s, rfl, rfl⟩ : ∃ s : Nat × Nat, (s.1 : Int) = a ∧ (s.2 : Int) = b := ⟨(a.toNat, b.toNat), Int.toNat_of_nonneg hv.1, Int.toNat_of_nonneg hv.2.2.1⟩
    have hs1 : s.1 < L.length := by have := hv.2.1; omega
    have hs2 : s.2 ≤ (L.getD s.1 []).length := by have := hv.2.2.2; rw [Int.toNat_natCast] at this; omega
    have hN := fun ys G => Next_run (ys := ys) (lo := 0) (H := G) hx hls hl1 hl3 s p hs1 hs2
    have hP := fun ys G => Prev_run (ys := ys) (lo := 0) (H := G) hx hls hl1 hl3 s p hs1 hs2
    have hE := fun ys G => End_run (ys := ys) (lo := 0) (H := G) hx hls hl1 hl3 s p hs1 hs2
    have hW1 := fun ys G => refWordN_run (ys := ys) (lo := 0) (H := G) hx hls hl1 hl3 s p hs1 hs2 1 (by decide) false (by decide) fun ys lo G B m i q1 q2 q3 => edgeB_run q1 q2 i q3
    have hW2 := fun ys G => refWordP_run (ys := ys) (lo := 0) (H := G) hx hls hl1 hl3 s p hs1 hs2
    have hW3 := fun ys G => refWordN_run (ys := ys) (lo := 0) (H := G) hx hls hl1 hl3 s p hs1 hs2 3 (by decide) true (by decide) fun ys lo G B m i q1 q2 q3 => edgeE_run q1 q2 i q3
    repeat' (first | refine zka ?_ | refine zkb ?_ | (apply RKp.op; ((try simp (disch := (first | omega | exact zX | exact zO | fail)) only [go_sem, Nat.reduceDiv, Nat.reduceMod, Nat.reduceAdd, Nat.reduceSub, Nat.reduceEqDiff, Nat.reduceLeDiff, Nat.reduceLT, Nat.reduceMul, reduceIte, Nat.reducePow, Int.reduceEq]); exact zL); rfl) | (apply RKp.callRE; (apply hN <;> (exact zD)); (intro x; rfl)) | refine zkc ?_ | apply RKg.tt | apply RKg.ff | refine zkd ?_ | refine zke ?_ | refine zkf ?_ | (refine RKg.split (fun h => ?_) (fun h => ?_) <;> (try rw [h]) <;> (replace h := zB h) <;> (try (exfalso; first | exact h | omega))) | apply RK.nil | apply V.sq | apply V.bl | apply V.sc | apply V.skip | apply V.label | apply V.ret | apply V.exit | apply SeqQ.normal | apply SeqQ.ret | apply SeqQ.exit | apply BlockQ.normal | apply BlockQ.ret | apply BlockQ.here | refine zbt ?_ | apply LoopS.ret | apply LoopS.exit | apply LoopF.ret | apply LoopF.exit | apply V.regK | refine zva ?_ | refine zvb ?_ | refine zgc ?_ | refine zvd ?_ | refine zve ?_ | (refine zvf (fun h => ?_) (fun h => ?_) <;> (replace h := zB h) <;> (try (exfalso; first | exact h | omega))) | (refine zfc Tryz.results3 ?_; (try dsimp only)))
    rintro x1 tr1 htr1 ⟨r1, rfl, n1⟩
    repeat' (first | refine zka ?_ | refine zkb ?_ | (apply RKp.op; ((try simp (disch := (first | omega | exact zX | exact zO | fail)) only [go_sem, Nat.reduceDiv, Nat.reduceMod, Nat.reduceAdd, Nat.reduceSub, Nat.reduceEqDiff, Nat.reduceLeDiff, Nat.reduceLT, Nat.reduceMul, reduceIte, Nat.reducePow, Int.reduceEq]); exact zL); rfl) | (apply RKp.callRE; (apply hW1 <;> (exact zD)); (intro x; rfl)) | refine zkc ?_ | apply RKg.tt | apply RKg.ff | refine zkd ?_ | refine zke ?_ | refine zkf ?_ | (refine RKg.split (fun h => ?_) (fun h => ?_) <;> (try rw [h]) <;> (replace h := zB h) <;> (try (exfalso; first | exact h | omega))) | apply RK.nil | apply V.sq | apply V.bl | apply V.sc | apply V.skip | apply V.label | apply V.ret | apply V.exit | apply SeqQ.normal | apply SeqQ.ret | apply SeqQ.exit | apply BlockQ.normal | apply BlockQ.ret | apply BlockQ.here | refine zbt ?_ | apply LoopS.ret | apply LoopS.exit | apply LoopF.ret | apply LoopF.exit | apply V.regK | refine zva ?_ | refine zvb ?_ | refine zgc ?_ | refine zvd ?_ | refine zve ?_ | (refine zvf (fun h => ?_) (fun h => ?_) <;> (replace h := zB h) <;> (try (exfalso; first | exact h | omega))) | (refine zfc Tryz.results3 ?_; (try dsimp only)))
    rintro x2 tr2 htr2 ⟨r2, rfl, n2⟩
    obtain rfl := n1.uniq n2
    unfold spotA
    repeat' (first | refine zka ?_ | refine zkb ?_ | (apply RKp.op; ((try simp (disch := (first | omega | exact zX | exact zO | fail)) only [go_sem, Nat.reduceDiv, Nat.reduceMod, Nat.reduceAdd, Nat.reduceSub, Nat.reduceEqDiff, Nat.reduceLeDiff, Nat.reduceLT, Nat.reduceMul, reduceIte, Nat.reducePow, Int.reduceEq]); exact zL); rfl) | (apply RKp.callRE; (apply hP <;> (exact zD)); (intro x; rfl)) | refine zkc ?_ | apply RKg.tt | apply RKg.ff | refine zkd ?_ | refine zke ?_ | refine zkf ?_ | (refine RKg.split (fun h => ?_) (fun h => ?_) <;> (try rw [h]) <;> (replace h := zB h) <;> (try (exfalso; first | exact h | omega))) | apply RK.nil | apply V.sq | apply V.bl | apply V.sc | apply V.skip | apply V.label | apply V.ret | apply V.exit | apply SeqQ.normal | apply SeqQ.ret | apply SeqQ.exit | apply BlockQ.normal | apply BlockQ.ret | apply BlockQ.here | refine zbt ?_ | apply LoopS.ret | apply LoopS.exit | apply LoopF.ret | apply LoopF.exit | apply V.regK | refine zva ?_ | refine zvb ?_ | refine zgc ?_ | refine zvd ?_ | refine zve ?_ | (refine zvf (fun h => ?_) (fun h => ?_) <;> (replace h := zB h) <;> (try (exfalso; first | exact h | omega))) | (refine zfc Tryz.results3 ?_; (try dsimp only)))
    rintro x3 tr3 htr3 ⟨r3, rfl, n3⟩
    repeat' (first | refine zka ?_ | refine zkb ?_ | (apply RKp.op; ((try simp (disch := (first | omega | exact zX | exact zO | fail)) only [go_sem, Nat.reduceDiv, Nat.reduceMod, Nat.reduceAdd, Nat.reduceSub, Nat.reduceEqDiff, Nat.reduceLeDiff, Nat.reduceLT, Nat.reduceMul, reduceIte, Nat.reducePow, Int.reduceEq]); exact zL); rfl) | (apply RKp.callRE; (apply hW2 <;> (exact zD)); (intro x; rfl)) | refine zkc ?_ | apply RKg.tt | apply RKg.ff | refine zkd ?_ | refine zke ?_ | refine zkf ?_ | (refine RKg.split (fun h => ?_) (fun h => ?_) <;> (try rw [h]) <;> (replace h := zB h) <;> (try (exfalso; first | exact h | omega))) | apply RK.nil | apply V.sq | apply V.bl | apply V.sc | apply V.skip | apply V.label | apply V.ret | apply V.exit | apply SeqQ.normal | apply SeqQ.ret | apply SeqQ.exit | apply BlockQ.normal | apply BlockQ.ret | apply BlockQ.here | refine zbt ?_ | apply LoopS.ret | apply LoopS.exit | apply LoopF.ret | apply LoopF.exit | apply V.regK | refine zva ?_ | refine zvb ?_ | refine zgc ?_ | refine zvd ?_ | refine zve ?_ | (refine zvf (fun h => ?_) (fun h => ?_) <;> (replace h := zB h) <;> (try (exfalso; first | exact h | omega))) | (refine zfc Tryz.results3 ?_; (try dsimp only)))
    rintro x4 tr4 htr4 ⟨r4, rfl, n4⟩
    obtain rfl := n3.uniq n4
    unfold spotA
    repeat' (first | refine zka ?_ | refine zkb ?_ | (apply RKp.op; ((try simp (disch := (first | omega | exact zX | exact zO | fail)) only [go_sem, Nat.reduceDiv, Nat.reduceMod, Nat.reduceAdd, Nat.reduceSub, Nat.reduceEqDiff, Nat.reduceLeDiff, Nat.reduceLT, Nat.reduceMul, reduceIte, Nat.reducePow, Int.reduceEq]); exact zL); rfl) | (apply RKp.callRE; (apply hE <;> (exact zD)); (intro x; rfl)) | refine zkc ?_ | apply RKg.tt | apply RKg.ff | refine zkd ?_ | refine zke ?_ | refine zkf ?_ | (refine RKg.split (fun h => ?_) (fun h => ?_) <;> (try rw [h]) <;> (replace h := zB h) <;> (try (exfalso; first | exact h | omega))) | apply RK.nil | apply V.sq | apply V.bl | apply V.sc | apply V.skip | apply V.label | apply V.ret | apply V.exit | apply SeqQ.normal | apply SeqQ.ret | apply SeqQ.exit | apply BlockQ.normal | apply BlockQ.ret | apply BlockQ.here | refine zbt ?_ | apply LoopS.ret | apply LoopS.exit | apply LoopF.ret | apply LoopF.exit | apply V.regK | refine zva ?_ | refine zvb ?_ | refine zgc ?_ | refine zvd ?_ | refine zve ?_ | (refine zvf (fun h => ?_) (fun h => ?_) <;> (replace h := zB h) <;> (try (exfalso; first | exact h | omega))) | (refine zfc Tryz.results3 ?_; (try dsimp only)))
    rintro x5 tr5 htr5 ⟨r5, rfl, n5⟩
    repeat' (first | refine zka ?_ | refine zkb ?_ | (apply RKp.op; ((try simp (disch := (first | omega | exact zX | exact zO | fail)) only [go_sem, Nat.reduceDiv, Nat.reduceMod, Nat.reduceAdd, Nat.reduceSub, Nat.reduceEqDiff, Nat.reduceLeDiff, Nat.reduceLT, Nat.reduceMul, reduceIte, Nat.reducePow, Int.reduceEq]); exact zL); rfl) | (apply RKp.callRE; (apply hW3 <;> (exact zD)); (intro x; rfl)) | refine zkc ?_ | apply RKg.tt | apply RKg.ff | refine zkd ?_ | refine zke ?_ | refine zkf ?_ | (refine RKg.split (fun h => ?_) (fun h => ?_) <;> (try rw [h]) <;> (replace h := zB h) <;> (try (exfalso; first | exact h | omega))) | apply RK.nil | apply V.sq | apply V.bl | apply V.sc | apply V.skip | apply V.label | apply V.ret | apply V.exit | apply SeqQ.normal | apply SeqQ.ret | apply SeqQ.exit | apply BlockQ.normal | apply BlockQ.ret | apply BlockQ.here | refine zbt ?_ | apply LoopS.ret | apply LoopS.exit | apply LoopF.ret | apply LoopF.exit | apply V.regK | refine zva ?_ | refine zvb ?_ | refine zgc ?_ | refine zvd ?_ | refine zve ?_ | (refine zvf (fun h => ?_) (fun h => ?_) <;> (replace h := zB h) <;> (try (exfalso; first | exact h | omega))) | (refine zfc Tryz.results3 ?_; (try dsimp only)))
    rintro x6 tr6 htr6 ⟨r6, rfl, n6⟩
    obtain rfl := n5.uniq n6
    unfold spotA
    repeat' (first | refine zka ?_ | refine zkb ?_ | (apply RKp.op; ((try simp (disch := (first | omega | exact zX | exact zO | fail)) only [go_sem, Nat.reduceDiv, Nat.reduceMod, Nat.reduceAdd, Nat.reduceSub, Nat.reduceEqDiff, Nat.reduceLeDiff, Nat.reduceLT, Nat.reduceMul, reduceIte, Nat.reducePow, Int.reduceEq]); exact zL); rfl) | (apply RKp.callR; ((first | apply Kind_run | apply refKind_run) <;> (exact zD)); rfl; intro tr htr) | refine zkc ?_ | apply RKg.tt | apply RKg.ff | refine zkd ?_ | refine zke ?_ | refine zkf ?_ | (refine RKg.split (fun h => ?_) (fun h => ?_) <;> (try rw [h]) <;> (replace h := zB h) <;> (try (exfalso; first | exact h | omega))) | apply RK.nil | apply V.sq | apply V.bl | apply V.sc | apply V.skip | apply V.label | apply V.ret | apply V.exit | apply SeqQ.normal | apply SeqQ.ret | apply SeqQ.exit | apply BlockQ.normal | apply BlockQ.ret | apply BlockQ.here | refine zbt ?_ | apply LoopS.ret | apply LoopS.exit | apply LoopF.ret | apply LoopF.exit | apply V.regK | refine zva ?_ | refine zvb ?_ | refine zgc ?_ | refine zvd ?_ | refine zve ?_ | (refine zvf (fun h => ?_) (fun h => ?_) <;> (replace h := zB h) <;> (try (exfalso; first | exact h | omega))) | (refine zfc Tryz.results3 ?_; (try dsimp only)))
    all_goals first
      | rfl
      | (exfalso; simp at h; done)
  · have hN := fun ys G => Next_no (ys := ys) (lo := 0) (H := G) hx hls hl1 a b p hv
    have hP := fun ys G => Prev_no (ys := ys) (lo := 0) (H := G) hx hls hl1 a b p hv
    have hE := fun ys G => End_no (ys := ys) (lo := 0) (H := G) hx hls hl1 a b p hv
    have hW := fun ys G how => refWord_no (ys := ys) (lo := 0) (H := G) hx hls hl1 a b p how hv
    repeat' (first | refine zka ?_ | refine zkb ?_ | (apply RKp.op; ((try simp (disch := (first | omega | exact zX | exact zO | fail)) only [go_sem, Nat.reduceDiv, Nat.reduceMod, Nat.reduceAdd, Nat.reduceSub, Nat.reduceEqDiff, Nat.reduceLeDiff, Nat.reduceLT, Nat.reduceMul, reduceIte, Nat.reducePow, Int.reduceEq]); exact zL); rfl) | (apply RKp.callR; ((first | apply hN | apply hP | apply hE | apply hW | apply Kind_run | apply refKind_run) <;> (exact zD)); rfl; intro tr htr) | refine zkc ?_ | apply RKg.tt | apply RKg.ff | refine zkd ?_ | refine zke ?_ | refine zkf ?_ | (refine RKg.split (fun h => ?_) (fun h => ?_) <;> (try rw [h]) <;> (replace h := zB h) <;> (try (exfalso; first | exact h | omega))) | apply RK.nil | apply V.sq | apply V.bl | apply V.sc | apply V.skip | apply V.label | apply V.ret | apply V.exit | apply SeqQ.normal | apply SeqQ.ret | apply SeqQ.exit | apply BlockQ.normal | apply BlockQ.ret | apply BlockQ.here | refine zbt ?_ | apply LoopS.ret | apply LoopS.exit | apply LoopF.ret | apply LoopF.exit | apply V.regK | refine zva ?_ | refine zvb ?_ | refine zgc ?_ | refine zvd ?_ | refine zve ?_ | (refine zvf (fun h => ?_) (fun h => ?_) <;> (replace h := zB h) <;> (try (exfalso; first | exact h | omega))) | (refine zfc Tryz.results3 ?_; (try dsimp only)))
    all_goals first
      | rfl
      | (exfalso; simp at h; done)
theorem WordEnds_law (hbe : ∀ ys lo H, CallR (ELo oc) ys lo 8 [] H (.v (.bool true)) H ⟨0, 0, 0⟩) (hA : Sl 1 A es) (hB : LsB es ls) (hl : es.length < 2 ^ 63) (a b p : Int) : WC (ELo oc) [] 0 5 [A, .agg [.v (.int .i64 a), .v (.int .i64 b), .v (.int .i64 p)]] .empty fun x _ => x = .v (.bool true) := by
  generalize hEm : AHeap.empty = H0
  have hLs := fun ys G => Lines_run (ys := ys) (lo := 0) (H := G) (.inl hA) hB hl
  refine zvin Tryz.func5 Tryz.ntmps5 ?_
  repeat' (first | refine zka ?_ | refine zkb ?_ | (apply RKp.op; ((try simp (disch := (first | omega | exact zX | exact zO | fail)) only [go_sem, Nat.reduceDiv, Nat.reduceMod, Nat.reduceAdd, Nat.reduceSub, Nat.reduceEqDiff, Nat.reduceLeDiff, Nat.reduceLT, Nat.reduceMul, reduceIte, Nat.reducePow, Int.reduceEq]); exact zL); rfl) | (apply RKp.call; (apply hbe <;> (exact zD)); rfl) | (apply RKp.callR; (apply hbe <;> (exact zD)); rfl; intro tr htr) | (apply RKp.callO; (apply hbe <;> (exact zD)); rfl; intro tr) | (apply RKp.callRE; ((first | apply hbe | apply hLs) <;> (exact zD)); (intro x; rfl)) | (apply RKp.callE; (apply hbe <;> (exact zD)); (intro x; rfl)) | refine zkc ?_ | apply RKg.tt | apply RKg.ff | refine zkd ?_ | refine zke ?_ | refine zkf ?_ | (refine RKg.split (fun h => ?_) (fun h => ?_) <;> (try rw [h]) <;> (replace h := zB h) <;> (try (exfalso; first | exact h | omega))) | apply RK.nil | apply V.sq | apply V.bl | apply V.sc | apply V.skip | apply V.label | apply V.ret | apply V.exit | apply SeqQ.normal | apply SeqQ.ret | apply SeqQ.exit | apply BlockQ.normal | apply BlockQ.ret | apply BlockQ.here | refine zbt ?_ | apply LoopS.ret | apply LoopS.exit | apply LoopF.ret | apply LoopF.exit | apply V.regK | refine zva ?_ | refine zvb ?_ | refine zgc ?_ | refine zvd ?_ | refine zve ?_ | (refine zvf (fun h => ?_) (fun h => ?_) <;> (replace h := zB h) <;> (try (exfalso; first | exact h | omega))) | (refine zfc Tryz.results5 ?_; (try dsimp only)))
  rintro x tr htr ⟨es', hx, hls⟩
  obtain ⟨hl1, hl2⟩ := lines_bd ls
  generalize linesL ls = L at *
  have hl3 : ∀ j, j < L.length → (L.getD j []).length < 2 ^ 20 := fun j hj => by have := hl2 j hj; omega
  have hz1 : rdTr x = ⟨0, 0, 0⟩ := by rcases hx with rfl | ⟨_, rfl | rfl⟩ <;> rfl
  have lnL : ∀ G, primL 0 G (builtinA (ELo oc) .len #[22] 3 [x]) = some (.v (.int .i64 L.length), G, ⟨0, 0, 0⟩) := fun G => by rw [lenL 0 (.inl hx) hls G (Ext.refl _), hz1]
  have ixLz : ∀ G (z : Int), 0 ≤ z → z < L.length → primL 0 G (indexAddrA (ELo oc) 22 x (.v (.int .i64 z))) = some (ixA x es' z.toNat, G, ⟨0, 0, 0⟩) := fun G z z0 z1 => by rw [ixL 0 (.inl hx) hls G (Ext.refl _) .i64 z z0 z1, hz1]
  have ldLz : ∀ G j, j < L.length → primL 0 G (loadA (ELo oc) 33 (ixA x es' j)) = some (bOf es' j, G, ⟨0, 0, 0⟩) := fun G j hj => by rw [ldL 0 (.inl hx) hls G (Ext.refl _) j hj, hz1]
  have lnC : ∀ G j, j < L.length → primL 0 G (builtinA (ELo oc) .len #[33] 3 [bOf es' j]) = some (.v (.int .i64 (L.getD j []).length), G, ⟨0, 0, 0⟩) := fun G j hj => by
    have hs := hls.sl j hj
    rw [len_cell 0 (.inl hs)]
    have : rdTr (bOf es' j) = ⟨0, 0, 0⟩ := by rcases hs with h | ⟨_, h | h⟩ <;> rw [h] <;> rfl
    rw [this]
  by_cases hv : validS L a b
  · obtain ⟨s, rfl, rfl⟩ : ∃ s : Nat × Nat, (s.1 : Int) = a ∧ (s.2 : Int) = b := ⟨(a.toNat, b.toNat), Int.toNat_of_nonneg hv.1, Int.toNat_of_nonneg hv.2.2.1⟩
    have hs1 : s.1 < L.length := by have := hv.2.1; omega
    have hs2 : s.2 ≤ (L.getD s.1 []).length := by have := hv.2.2.2; rw [Int.toNat_natCast] at this; omega
    have hE := fun ys G => End_run (ys := ys) (lo := 0) (H := G) hx hls hl1 hl3 s p hs1 hs2
    have lnA := fun G => lnC G s.1 hs1
    have hl4 := hl3 s.1 hs1
    repeat' (first | refine zka ?_ | refine zkb ?_ | (apply RKp.op; ((try simp (disch := (first | omega | exact zX | exact zO | fail)) only [lnL, ixLz, ldLz, lnA, Int.toNat_natCast, go_sem, Nat.reduceDiv, Nat.reduceMod, Nat.reduceAdd, Nat.reduceSub, Nat.reduceEqDiff, Nat.reduceLeDiff, Nat.reduceLT, Nat.reduceMul, reduceIte, Nat.reducePow, Int.reduceEq]); exact zL); rfl) | (apply RKp.callRE; (apply hE <;> (exact zD)); (intro x; rfl)) | refine zkc ?_ | apply RKg.tt | apply RKg.ff | refine zkd ?_ | refine zke ?_ | refine zkf ?_ | (refine RKg.split (fun h => ?_) (fun h => ?_) <;> (try rw [h]) <;> (replace h := zB h) <;> (try (exfalso; first | exact h | omega))) | apply RK.nil | apply V.sq | apply V.bl | apply V.sc | apply V.skip | apply V.label | apply V.ret | apply V.exit | apply SeqQ.normal | apply SeqQ.ret | apply SeqQ.exit | apply BlockQ.normal | apply BlockQ.ret | apply BlockQ.here | refine zbt ?_ | apply LoopS.ret | apply LoopS.exit | apply LoopF.ret | apply LoopF.exit | apply V.regK | refine zva ?_ | refine zvb ?_ | refine zgc ?_ | refine zvd ?_ | refine zve ?_ | (refine zvf (fun h => ?_) (fun h => ?_) <;> (replace h := zB h) <;> (try (exfalso; first | exact h | omega))) | (refine zfc Tryz.results5 ?_; (try dsimp only)))
    all_goals first
      | (exfalso; omega)
      | skip
    rintro x5 tr5 htr5 ⟨r, rfl, n5⟩
    unfold spotA
    rcases n5 with ⟨⟨e1, e2, e3⟩, e4, -⟩ | ⟨-, rfl⟩
    · have lnB := fun G => lnC G r.1 e1
      have hl5 := hl3 r.1 e1
      have hC := hls.sl r.1 e1
      have hz2 : rdTr (bOf es' r.1) = ⟨0, 0, 0⟩ := by rcases hC with h | ⟨_, h | h⟩ <;> rw [h] <;> rfl
      have ixC : ∀ G (z : Int), 0 ≤ z → z < (L.getD r.1 []).length → primL 0 G (indexAddrA (ELo oc) 33 (bOf es' r.1) (.v (.int .i64 z))) = some (ixA (bOf es' r.1) (cesA (L.getD r.1 [])) z.toNat, G, ⟨0, 0, 0⟩) := fun G z z0 z1 => by rw [ix_cell 0 (.inl hC) .i64 z z0 z1, hz2]
      have ldC : ∀ G j, j < (L.getD r.1 []).length → primL 0 G (loadA (ELo oc) 26 (ixA (bOf es' r.1) (cesA (L.getD r.1 [])) j)) = some (.agg [.v (.int .i32 ((L.getD r.1 []).getD j zeroC).r), .v (.int .i64 ((L.getD r.1 []).getD j zeroC).w), .v (.int .i64 ((L.getD r.1 []).getD j zeroC).a)], G, ⟨0, 0, 0⟩) := fun G j hj => by rw [ld_cell 0 (.inl hC) j hj, hz2]
      have er : ((r.2 : Int) + 1).toNat = r.2 + 1 := by omega
      have hk0 := kindI_0 ((L.getD r.1 []).getD r.2 zeroC).r
      obtain ⟨f1, f2⟩ := e3
      unfold kindC at f1 f2
      unfold ltP at e4
      repeat' (first | refine zka ?_ | refine zkb ?_ | (apply RKp.op; ((try simp (disch := (first | omega | exact zX | exact zO | fail)) only [lnL, ixLz, ldLz, lnB, ixC, ldC, er, Int.toNat_natCast, go_sem, Nat.reduceDiv, Nat.reduceMod, Nat.reduceAdd, Nat.reduceSub, Nat.reduceEqDiff, Nat.reduceLeDiff, Nat.reduceLT, Nat.reduceMul, reduceIte, Nat.reducePow, Int.reduceEq]); exact zL); rfl) | (apply RKp.callR; (apply refKind_run <;> (exact zD)); rfl; intro tr htr) | refine zkc ?_ | apply RKg.tt | apply RKg.ff | refine zkd ?_ | refine zke ?_ | refine zkf ?_ | (refine RKg.split (fun h => ?_) (fun h => ?_) <;> (try rw [h]) <;> (replace h := zB h) <;> (try (exfalso; first | exact h | omega))) | apply RK.nil | apply V.sq | apply V.bl | apply V.sc | apply V.skip | apply V.label | apply V.ret | apply V.exit | apply SeqQ.normal | apply SeqQ.ret | apply SeqQ.exit | apply BlockQ.normal | apply BlockQ.ret | apply BlockQ.here | refine zbt ?_ | apply LoopS.ret | apply LoopS.exit | apply LoopF.ret | apply LoopF.exit | apply V.regK | refine zva ?_ | refine zvb ?_ | refine zgc ?_ | refine zvd ?_ | refine zve ?_ | (refine zvf (fun h => ?_) (fun h => ?_) <;> (replace h := zB h) <;> (try (exfalso; first | exact h | omega))) | (refine zfc Tryz.results5 ?_; (try dsimp only)))
      all_goals first
        | (exfalso; omega)
        | rfl
        | exact congrArg (fun z => AV.v (Value.bool z)) (decide_eq_true (by omega))
        | trace_state
    · have hz : 0 < L.length := by omega
      have lnE := fun G => lnC G (L.length - 1) (by omega)
      have hl5 := hl3 (L.length - 1) (by omega)
      have ez : ((L.length - 1 : Nat) : Int) = (L.length : Int) - 1 := by omega
      unfold endS
      repeat' (first | refine zka ?_ | refine zkb ?_ | (apply RKp.op; ((try simp (disch := (first | omega | exact zX | exact zO | fail)) only [lnL, ixLz, ldLz, lnE, Int.toNat_natCast, go_sem, Nat.reduceDiv, Nat.reduceMod, Nat.reduceAdd, Nat.reduceSub, Nat.reduceEqDiff, Nat.reduceLeDiff, Nat.reduceLT, Nat.reduceMul, reduceIte, Nat.reducePow, Int.reduceEq]); exact zL); rfl) | refine zkc ?_ | apply RKg.tt | apply RKg.ff | refine zkd ?_ | refine zke ?_ | refine zkf ?_ | (refine RKg.split (fun h => ?_) (fun h => ?_) <;> (try rw [h]) <;> (replace h := zB h) <;> (try (exfalso; first | exact h | omega))) | apply RK.nil | apply V.sq | apply V.bl | apply V.sc | apply V.skip | apply V.label | apply V.ret | apply V.exit | apply SeqQ.normal | apply SeqQ.ret | apply SeqQ.exit | apply BlockQ.normal | apply BlockQ.ret | apply BlockQ.here | refine zbt ?_ | apply LoopS.ret | apply LoopS.exit | apply LoopF.ret | apply LoopF.exit | apply V.regK | refine zva ?_ | refine zvb ?_ | refine zgc ?_ | refine zvd ?_ | refine zve ?_ | (refine zvf (fun h => ?_) (fun h => ?_) <;> (replace h := zB h) <;> (try (exfalso; first | exact h | omega))) | (refine zfc Tryz.results5 ?_; (try dsimp only)))
      all_goals first
        | (exfalso; omega)
        | rfl
        | exact congrArg (fun z => AV.v (Value.bool z)) (decide_eq_true (by omega))
        | trace_state
  · have hN := fun ys G => Next_no (ys := ys) (lo := 0) (H := G) hx hls hl1 a b p hv
    have hP := fun ys G => Prev_no (ys := ys) (lo := 0) (H := G) hx hls hl1 a b p hv
    have hE := fun ys G => End_no (ys := ys) (lo := 0) (H := G) hx hls hl1 a b p hv
    by_cases h1 : 0 ≤ a ∧ a < L.length
    · have lnA := fun G => lnC G a.toNat (by omega)
      have hv2 : ¬ (0 ≤ b ∧ b ≤ (L.getD a.toNat []).length) := fun z => hv ⟨h1.1, h1.2, z.1, z.2⟩
      have hl4 := hl3 a.toNat (by omega)
      generalize hL : (L.getD a.toNat []).length = M at *
      repeat' (first | refine zka ?_ | refine zkb ?_ | (apply RKp.op; ((try simp (disch := (first | omega | exact zX | exact zO | fail)) only [lnL, ixLz, ldLz, lnA, go_sem, Nat.reduceDiv, Nat.reduceMod, Nat.reduceAdd, Nat.reduceSub, Nat.reduceEqDiff, Nat.reduceLeDiff, Nat.reduceLT, Nat.reduceMul, reduceIte, Nat.reducePow, Int.reduceEq]); exact zL); rfl) | (apply RKp.callR; ((first | apply hN | apply hP | apply hE) <;> (exact zD)); rfl; intro tr htr) | refine zkc ?_ | apply RKg.tt | apply RKg.ff | refine zkd ?_ | refine zke ?_ | refine zkf ?_ | (refine RKg.split (fun h => ?_) (fun h => ?_) <;> (try rw [h]) <;> (replace h := zB h) <;> (try (exfalso; first | exact h | omega))) | apply RK.nil | apply V.sq | apply V.bl | apply V.sc | apply V.skip | apply V.label | apply V.ret | apply V.exit | apply SeqQ.normal | apply SeqQ.ret | apply SeqQ.exit | apply BlockQ.normal | apply BlockQ.ret | apply BlockQ.here | refine zbt ?_ | apply LoopS.ret | apply LoopS.exit | apply LoopF.ret | apply LoopF.exit | apply V.regK | refine zva ?_ | refine zvb ?_ | refine zgc ?_ | refine zvd ?_ | refine zve ?_ | (refine zvf (fun h => ?_) (fun h => ?_) <;> (replace h := zB h) <;> (try (exfalso; first | exact h | omega))) | (refine zfc Tryz.results5 ?_; (try dsimp only)))
      all_goals first
        | (exfalso; omega)
        | rfl
        | (exfalso; simp at h; done)
        | exact congrArg (fun z => AV.v (Value.bool z)) h
        | trace_state
    · repeat' (first | refine zka ?_ | refine zkb ?_ | (apply RKp.op; ((try simp (disch := (first | omega | exact zX | exact zO | fail)) only [lnL, go_sem, Nat.reduceDiv, Nat.reduceMod, Nat.reduceAdd, Nat.reduceSub, Nat.reduceEqDiff, Nat.reduceLeDiff, Nat.reduceLT, Nat.reduceMul, reduceIte, Nat.reducePow, Int.reduceEq]); exact zL); rfl) | (apply RKp.callR; ((first | apply hN | apply hP | apply hE) <;> (exact zD)); rfl; intro tr htr) | refine zkc ?_ | apply RKg.tt | apply RKg.ff | refine zkd ?_ | refine zke ?_ | refine zkf ?_ | (refine RKg.split (fun h => ?_) (fun h => ?_) <;> (try rw [h]) <;> (replace h := zB h) <;> (try (exfalso; first | exact h | omega))) | apply RK.nil | apply V.sq | apply V.bl | apply V.sc | apply V.skip | apply V.label | apply V.ret | apply V.exit | apply SeqQ.normal | apply SeqQ.ret | apply SeqQ.exit | apply BlockQ.normal | apply BlockQ.ret | apply BlockQ.here | refine zbt ?_ | apply LoopS.ret | apply LoopS.exit | apply LoopF.ret | apply LoopF.exit | apply V.regK | refine zva ?_ | refine zvb ?_ | refine zgc ?_ | refine zvd ?_ | refine zve ?_ | (refine zvf (fun h => ?_) (fun h => ?_) <;> (replace h := zB h) <;> (try (exfalso; first | exact h | omega))) | (refine zfc Tryz.results5 ?_; (try dsimp only)))
      all_goals first
        | (exfalso; omega)
        | rfl
        | (exfalso; simp at h; done)
        | exact congrArg (fun z => AV.v (Value.bool z)) h
        | trace_state
end
end Go.Am
