
/- LineEach: lines, gone through. -/
import Derived.Test.YtmcimfmibpfnhaaGreatRLnX
set_option linter.all false
set_option linter.deprecated false
namespace Go.Am
variable {oc : Orc} [OrcI oc]
open Go.Proofs
set_option maxRecDepth 100000
set_option maxHeartbeats 8000000

/-- A number that goes on in a variable's block n. -/
structure CntI (Hs : AHeap) (n : Nat) (v : Nat → Int) (P : Nat → Prop) (i : Nat) (G : AHeap) : Prop where
  nx : Hs.next ≤ G.next
  kp : ∀ k, k < Hs.next → k ≠ n → G.get k = Hs.get k
  js : G.js = Hs.js
  st : G.get n = some ⟨3, 1, 0, [[.v (.int .i64 (v i))]], none⟩
  p : P i
theorem CntI.on {Hs G G' : AHeap} {n i : Nat} {v : Nat → Int} {P : Nat → Prop} (h : CntI Hs n v P i G) (hn : n < Hs.next) (hx : ExJ G G') : CntI Hs n v P i G' := by
  obtain ⟨h1, h2, h3, h4, h5⟩ := h
  have := hx.x.next
  exact ⟨by omega, fun k hk hkn => by rw [hx.x.get k (by omega), h2 k hk hkn], hx.j.trans h3, by rw [hx.x.get n (by omega)]; exact h4, h5⟩
section
variable {A : AV} {es : List (List AV)} {a : List Rw}
theorem LineEach_law (hbe : ∀ ys lo H, CallR (ELo oc) ys lo 22 [] H (.v (.bool true)) H ⟨0, 0, 0⟩) (hA : Sl 2 A es) (hl : es.length < 2 ^ 63) (hE : RsB es a) (stop : Int) (hst : -9223372036854775808 ≤ stop ∧ stop ≤ 9223372036854775807) : WC (ELo oc) [] 0 4 [A, .v (.int .i64 stop)] .empty fun x _ => x = .v (.bool true) := by
  generalize hEm : AHeap.empty = H0
  have hRa := fun ys G => Rows_run (ys := ys) (lo := 0) (H := G) (.inl hA) hE hl
  refine zvin Tryz.func4 Tryz.ntmps4 ?_
  repeat' (first | refine zka ?_ | refine zkb ?_ | (apply RKp.op; ((try simp (disch := (first | omega | exact zX | exact zO | fail)) only [go_sem, Nat.reduceDiv, Nat.reduceMod, Nat.reduceAdd, Nat.reduceSub, Nat.reduceEqDiff, Nat.reduceLeDiff, Nat.reduceLT, Nat.reduceMul, reduceIte, Nat.reducePow, Int.reduceEq]); exact zL); rfl) | (apply RKp.call; (apply hbe <;> (exact zD)); rfl) | (apply RKp.callR; (apply hbe <;> (exact zD)); rfl; intro tr htr) | (apply RKp.callO; (apply hbe <;> (exact zD)); rfl; intro tr) | (apply RKp.callRE; (apply hbe <;> (exact zD)); (intro x; rfl)) | (apply RKp.callE; (apply hbe <;> (exact zD)); (intro x; rfl)) | (apply RKp.callNE; (apply hRa <;> (exact zD)); (intro x; rfl)) | refine zkc ?_ | apply RKg.tt | apply RKg.ff | refine zkd ?_ | refine zke ?_ | refine zkf ?_ | (refine RKg.split (fun h => ?_) (fun h => ?_) <;> (try rw [h]) <;> (replace h := zB h) <;> (try (exfalso; first | exact h | omega))) | apply RK.nil | apply V.sq | apply V.bl | apply V.sc | apply V.skip | apply V.label | apply V.ret | apply V.exit | apply SeqQ.normal | apply SeqQ.ret | apply SeqQ.exit | apply BlockQ.normal | apply BlockQ.ret | apply BlockQ.here | refine zbt ?_ | apply LoopS.ret | apply LoopS.exit | apply LoopF.ret | apply LoopF.exit | apply V.regK | refine zvd ?_ | refine zve ?_ | (refine zvf (fun h => ?_) (fun h => ?_) <;> (replace h := zB h) <;> (try (exfalso; first | exact h | omega))) | (refine FnQ.retB (resc Tryz.results4) (by simp (disch := (first | omega | exact zX | exact zO | fail)) only [cellR_op, go_sem, Nat.reduceDiv, Nat.reduceMod, Nat.reduceAdd, Nat.reduceSub, Nat.reduceEqDiff, Nat.reduceLeDiff, Nat.reduceLT, Nat.reduceMul, reduceIte, Nat.reducePow, Int.reduceEq]; rfl) ?_; (try dsimp only)))
  rintro x H1 tr htr ⟨es1, ho1, hr1, hx1, -⟩
  have hn1 := hx1.next
  rw [next_push, next_push] at hn1
  have hla := rowsT_len a
  generalize rowsT a = ra at *
  have hX : SlH H1 2 x es1 := ho1.slh
  obtain ⟨hj1, hj2⟩ := joinL_sz hr1 hla
  have hK := fun ys => refJoin_run (ys := ys) (lo := 0) hX hr1 (by omega)
  have hEa := fun ys G (q : Ext H1 G) => Each_run (ys := ys) (lo := 0) (hX.ext q)
  repeat' (first | refine zka ?_ | refine zkb ?_ | (apply RKp.op; ((try simp (disch := (first | omega | exact zX | exact zO | fail)) only [go_sem, Nat.reduceDiv, Nat.reduceMod, Nat.reduceAdd, Nat.reduceSub, Nat.reduceEqDiff, Nat.reduceLeDiff, Nat.reduceLT, Nat.reduceMul, reduceIte, Nat.reducePow, Int.reduceEq]); exact zL); rfl) | (apply RKp.callRE; (apply hK <;> (exact zD)); (intro x; rfl)) | refine zkc ?_ | apply RKg.tt | apply RKg.ff | refine zkd ?_ | refine zke ?_ | refine zkf ?_ | (refine RKg.split (fun h => ?_) (fun h => ?_) <;> (try rw [h]) <;> (replace h := zB h) <;> (try (exfalso; first | exact h | omega))) | apply RK.nil | apply V.sq | apply V.bl | apply V.sc | apply V.skip | apply V.label | apply V.ret | apply V.exit | apply SeqQ.normal | apply SeqQ.ret | apply SeqQ.exit | apply BlockQ.normal | apply BlockQ.ret | apply BlockQ.here | refine zbt ?_ | apply LoopS.ret | apply LoopS.exit | apply LoopF.ret | apply LoopF.exit | apply V.regK | refine zvd ?_ | refine zve ?_ | (refine zvf (fun h => ?_) (fun h => ?_) <;> (replace h := zB h) <;> (try (exfalso; first | exact h | omega))) | (refine FnQ.retB (resc Tryz.results4) (by simp (disch := (first | omega | exact zX | exact zO | fail)) only [cellR_op, go_sem, Nat.reduceDiv, Nat.reduceMod, Nat.reduceAdd, Nat.reduceSub, Nat.reduceEqDiff, Nat.reduceLeDiff, Nat.reduceLT, Nat.reduceMul, reduceIte, Nat.reducePow, Int.reduceEq]; rfl) ?_; (try dsimp only)))
  rintro u tru htru ⟨els, hu, hls⟩
  have hcu : cellsOf u = some [u] := cells_SlH (H := H1) (.inl hu)
  repeat' (first | refine zka ?_ | refine zkb ?_ | (apply RKp.op; ((try simp (disch := (first | omega | exact zX | exact zO | fail)) only [hcu, go_sem, Nat.reduceDiv, Nat.reduceMod, Nat.reduceAdd, Nat.reduceSub, Nat.reduceEqDiff, Nat.reduceLeDiff, Nat.reduceLT, Nat.reduceMul, reduceIte, Nat.reducePow, Int.reduceEq]); exact zL); rfl) | (apply RKp.callN; (apply hEa <;> (exact zD)); rfl; intro tr htr) | refine zkc ?_ | apply RKg.tt | apply RKg.ff | refine zkd ?_ | refine zke ?_ | refine zkf ?_ | (refine RKg.split (fun h => ?_) (fun h => ?_) <;> (try rw [h]) <;> (replace h := zB h) <;> (try (exfalso; first | exact h | omega))) | apply RK.nil | apply V.sq | apply V.bl | apply V.sc | apply V.skip | apply V.label | apply V.ret | apply V.exit | apply SeqQ.normal | apply SeqQ.ret | apply SeqQ.exit | apply BlockQ.normal | apply BlockQ.ret | apply BlockQ.here | refine zbt ?_ | apply LoopS.ret | apply LoopS.exit | apply LoopF.ret | apply LoopF.exit | apply V.regK | refine zvd ?_ | refine zve ?_ | (refine zvf (fun h => ?_) (fun h => ?_) <;> (replace h := zB h) <;> (try (exfalso; first | exact h | omega))) | (refine FnQ.retB (resc Tryz.results4) (by simp (disch := (first | omega | exact zX | exact zO | fail)) only [cellR_op, hcu, go_sem, Nat.reduceDiv, Nat.reduceMod, Nat.reduceAdd, Nat.reduceSub, Nat.reduceEqDiff, Nat.reduceLeDiff, Nat.reduceLT, Nat.reduceMul, reduceIte, Nat.reducePow, Int.reduceEq]; rfl) ?_; (try dsimp only)))
  simp only [next_push]
  generalize hHs : (((H1.push (lnsBlk u)).push (rwsBlk x)).push ⟨3, 1, 0, [[.v (.int .i64 0)]], none⟩).push (rwsBlk x) = Hs
  have s1 : Hs.next = H1.next + 4 := by rw [← hHs]; rfl
  have s5 : Ext H1 Hs := by rw [← hHs]; exact ((((Ext.refl _).push _).push _).push _).push _
  have w0 : Hs.get H0.next = some ⟨3, 1, 0, [[.v (.int .i64 stop)]], none⟩ := by rw [s5.get _ (by omega), hx1.get _ (by (first | omega | (simp only [next_push, next_set, next_empty]; done) | (simp only [next_push, next_set, next_empty]; omega)))]; simp (disch := (first | omega | exact zX | fail)) only [get_set, get_push, next_push, next_set, if_pos', if_neg', if_true, if_false, reduceIte]
  have w1 : Hs.get (H0.next + 1) = some ⟨4, 1, 0, [[.v (.bool false)]], none⟩ := by rw [s5.get _ (by omega), hx1.get _ (by (first | omega | (simp only [next_push, next_set, next_empty]; done) | (simp only [next_push, next_set, next_empty]; omega)))]; simp (disch := (first | omega | exact zX | fail)) only [get_set, get_push, next_push, next_set, if_pos', if_neg', if_true, if_false, reduceIte]
  have w2 : Hs.get H1.next = some (lnsBlk u) := by rw [← hHs]; simp (disch := (first | omega | exact zX | fail)) only [get_set, get_push, next_push, next_set, if_pos', if_neg', if_true, if_false, reduceIte]
  have w3 : Hs.get (H1.next + 1 + 1) = some ⟨3, 1, 0, [[.v (.int .i64 0)]], none⟩ := by rw [← hHs]; simp (disch := (first | omega | exact zX | fail)) only [get_set, get_push, next_push, next_set, if_pos', if_neg', if_true, if_false, reduceIte]
  have w4 : Hs.get (H1.next + 1 + 1 + 1) = some (rwsBlk x) := by rw [← hHs]; simp (disch := (first | omega | exact zX | fail)) only [get_set, get_push, next_push, next_set, if_pos', if_neg', if_true, if_false, reduceIte]
  refine V.rf rfl rfl ((Each1_wc (A := x) (es := es1) (rows := ra) (b := H1.next + 1 + 1 + 1) (CntI (Hs.wj (Hs.js ++ [.on])) (H1.next + 1 + 1) (fun i => (i : Int)) (fun _ => True)) (fun _ => False) hr1 (by omega) ?_ ?_ ?_ ?_).mono ?_)
  · intro i G hG
    have h1 := hG.nx
    rw [next_wj] at h1
    refine ⟨by rw [hG.kp _ (by rw [next_wj]; omega) (by omega)]; exact w4, by omega, hX.on (by omega) (fun k hk hk2 => by rw [hG.kp k (by rw [next_wj]; omega) (by omega), get_wj]; exact s5.get k hk2), by omega⟩
  · intro i G G' hG hx
    exact hG.on (by rw [next_wj]; omega) hx
  · intro i G xv hi hG hxv
    obtain ⟨h1, h2, h3, h4, -⟩ := hG
    rw [next_wj] at h1
    have hbl := joinL_bd hr1 i hi
    have hEq := fun ys G => EqCells_run (ys := ys) (lo := 0) (H := G) (.inl hxv) (.inl (hls.sl i hi)) (by omega) (hls.lt i hi)
    simp only [decide_eq_true (rfl : (joinL ra).getD i [] = (joinL ra).getD i [])] at hEq
    have c2 : G.get H1.next = some (lnsBlk u) := by rw [h2 _ (by rw [next_wj]; omega) (by omega)]; exact w2
    have lnU := fun G => lenL 0 (H0 := G) (.inl hu) hls G (Ext.refl _)
    have ixU := fun G => ixL 0 (H0 := G) (.inl hu) hls G (Ext.refl _)
    have ldU := fun G => ldL 0 (H0 := G) (.inl hu) hls G (Ext.refl _)
    have hc1 : cellsOf xv = some [xv] := cells_SlH (H := H1) (.inl hxv)
    refine YR.intro (find_self _ _ _) (by rw [h3]; exact js_on _) rfl rfl ?_
    repeat' (first | refine zka ?_ | refine zkb ?_ | (apply RKp.op; ((try simp (disch := (first | omega | exact zX | exact zO | fail)) only [go_sem, Nat.reduceDiv, Nat.reduceMod, Nat.reduceAdd, Nat.reduceSub, Nat.reduceEqDiff, Nat.reduceLeDiff, Nat.reduceLT, Nat.reduceMul, reduceIte, Nat.reducePow, Int.reduceEq]); exact zL); rfl) | refine zkc ?_ | apply RKg.tt | apply RKg.ff | refine zkd ?_ | refine zke ?_ | refine zkf ?_ | (refine RKg.split (fun h => ?_) (fun h => ?_) <;> (try rw [h]) <;> (replace h := zB h) <;> (try (exfalso; first | exact h | omega))) | apply RK.nil | apply V.sq | apply V.bl | apply V.sc | apply V.skip | apply V.label | apply V.ret | apply V.exit | apply SeqQ.normal | apply SeqQ.ret | apply SeqQ.exit | apply BlockQ.normal | apply BlockQ.ret | apply BlockQ.here | refine zbt ?_ | apply LoopS.ret | apply LoopS.exit | apply LoopF.ret | apply LoopF.exit | apply V.regK | refine zvd ?_ | refine zve ?_ | (refine zvf (fun h => ?_) (fun h => ?_) <;> (replace h := zB h) <;> (try (exfalso; first | exact h | omega))) | (refine FnQ.retB (resc Tryz.results4) (by simp (disch := (first | omega | exact zX | exact zO | fail)) only [cellR_op, go_sem, Nat.reduceDiv, Nat.reduceMod, Nat.reduceAdd, Nat.reduceSub, Nat.reduceEqDiff, Nat.reduceLeDiff, Nat.reduceLT, Nat.reduceMul, reduceIte, Nat.reducePow, Int.reduceEq]; rfl) ?_; (try dsimp only)))
    refine ⟨rfl, ?_⟩
    dsimp only
    repeat' (first | refine zka ?_ | refine zkb ?_ | (apply RKp.op; ((try simp (disch := (first | omega | exact zX | exact zO | fail)) only [h4, c2, lnU, ixU, ldU, hc1, Int.toNat_natCast, go_sem, Nat.reduceDiv, Nat.reduceMod, Nat.reduceAdd, Nat.reduceSub, Nat.reduceEqDiff, Nat.reduceLeDiff, Nat.reduceLT, Nat.reduceMul, reduceIte, Nat.reducePow, Int.reduceEq]); exact zL); rfl) | (apply RKp.callR; (apply hEq <;> (exact zD)); rfl; intro tr htr) | refine zkc ?_ | apply RKg.tt | apply RKg.ff | refine zkd ?_ | refine zke ?_ | refine zkf ?_ | (refine RKg.split (fun h => ?_) (fun h => ?_) <;> (try rw [h]) <;> (replace h := zB h) <;> (try (exfalso; first | exact h | omega))) | apply RK.nil | apply V.sq | apply V.bl | apply V.sc | apply V.skip | apply V.label | apply V.ret | apply V.exit | apply SeqQ.normal | apply SeqQ.ret | apply SeqQ.exit | apply BlockQ.normal | apply BlockQ.ret | apply BlockQ.here | refine zbt ?_ | apply LoopS.ret | apply LoopS.exit | apply LoopF.ret | apply LoopF.exit | apply V.regK | refine zvd ?_ | refine zve ?_ | (refine zvf (fun h => ?_) (fun h => ?_) <;> (replace h := zB h) <;> (try (exfalso; first | exact h | omega))) | (refine FnQ.retB (resc Tryz.results4) (by simp (disch := (first | omega | exact zX | exact zO | fail)) only [cellR_op, h4, c2, lnU, ixU, ldU, hc1, Int.toNat_natCast, go_sem, Nat.reduceDiv, Nat.reduceMod, Nat.reduceAdd, Nat.reduceSub, Nat.reduceEqDiff, Nat.reduceLeDiff, Nat.reduceLT, Nat.reduceMul, reduceIte, Nat.reducePow, Int.reduceEq]; rfl) ?_; (try dsimp only)))
    all_goals first
      | (exfalso; omega)
      | skip
    refine .inl ⟨rfl, ⟨by rw [next_wj, next_wj, next_set, next_wj]; omega, fun k hk hkn => ?_, ?_, ?_, trivial⟩⟩
    · rw [next_wj] at hk
      rw [get_wj, get_set, if_neg (Ne.symm hkn), get_wj, h2 k (by rw [next_wj]; omega) hkn]
    · rw [js_wj, js_set, js_wj, h3, js_wj, js_off, js_off]
    · rw [get_wj, get_set, if_pos rfl]
      rfl
  · exact ⟨Nat.le_refl _, fun k _ _ => rfl, rfl, by rw [get_wj]; exact w3, trivial⟩
  · rintro r G (hG | hG)
    · obtain ⟨h1, h2, h3, h4, -⟩ := hG
      rw [next_wj] at h1
      have e : G.js[Hs.js.length]? = some .on := by rw [h3]; exact js_on _
      rw [e]
      dsimp only
      generalize hG2 : G.wj (G.js.set Hs.js.length .off) = G2
      have n2 : G2.next = G.next := by rw [← hG2]; rfl
      have g2 : ∀ k, G2.get k = G.get k := fun k => by rw [← hG2]; rfl
      have x2 : Ext H1 G2 := ⟨by omega, fun k hk => by rw [g2, h2 k (by rw [next_wj]; omega) (by omega), get_wj]; exact s5.get k hk⟩
      have v0 : G2.get H0.next = some ⟨3, 1, 0, [[.v (.int .i64 stop)]], none⟩ := by rw [g2, h2 _ (by rw [next_wj]; omega) (by omega)]; exact w0
      have v1 : G2.get (H0.next + 1) = some ⟨4, 1, 0, [[.v (.bool false)]], none⟩ := by rw [g2, h2 _ (by rw [next_wj]; omega) (by omega)]; exact w1
      have v2 : G2.get H1.next = some (lnsBlk u) := by rw [g2, h2 _ (by rw [next_wj]; omega) (by omega)]; exact w2
      have v3 : G2.get (H1.next + 1 + 1) = some ⟨3, 1, 0, [[.v (.int .i64 ((joinL ra).length : Int))]], none⟩ := by rw [g2]; exact h4
      repeat' (first | refine zka ?_ | refine zkb ?_ | (apply RKp.op; ((try simp (disch := (first | omega | exact zX | exact zO | fail)) only [v0, v1, v2, v3, go_sem, Nat.reduceDiv, Nat.reduceMod, Nat.reduceAdd, Nat.reduceSub, Nat.reduceEqDiff, Nat.reduceLeDiff, Nat.reduceLT, Nat.reduceMul, reduceIte, Nat.reducePow, Int.reduceEq]); exact zL); rfl) | (apply RKp.callN; (apply hEa <;> (exact zD)); rfl; intro tr htr) | refine zkc ?_ | apply RKg.tt | apply RKg.ff | refine zkd ?_ | refine zke ?_ | refine zkf ?_ | (refine RKg.split (fun h => ?_) (fun h => ?_) <;> (try rw [h]) <;> (replace h := zB h) <;> (try (exfalso; first | exact h | omega))) | apply RK.nil | apply V.sq | apply V.bl | apply V.sc | apply V.skip | apply V.label | apply V.ret | apply V.exit | apply SeqQ.normal | apply SeqQ.ret | apply SeqQ.exit | apply BlockQ.normal | apply BlockQ.ret | apply BlockQ.here | refine zbt ?_ | apply LoopS.ret | apply LoopS.exit | apply LoopF.ret | apply LoopF.exit | apply V.regK | refine zvd ?_ | refine zve ?_ | (refine zvf (fun h => ?_) (fun h => ?_) <;> (replace h := zB h) <;> (try (exfalso; first | exact h | omega))) | (refine FnQ.retB (resc Tryz.results4) (by simp (disch := (first | omega | exact zX | exact zO | fail)) only [cellR_op, v0, v1, v2, v3, go_sem, Nat.reduceDiv, Nat.reduceMod, Nat.reduceAdd, Nat.reduceSub, Nat.reduceEqDiff, Nat.reduceLeDiff, Nat.reduceLT, Nat.reduceMul, reduceIte, Nat.reducePow, Int.reduceEq]; rfl) ?_; (try dsimp only)))
      try simp only [next_push]
      generalize hHt : (G2.push ⟨3, 1, 0, [[.v (.int .i64 (-1))]], none⟩).push (rwsBlk x) = Ht
      have t1 : Ht.next = G2.next + 2 := by rw [← hHt]; rfl
      have t5 : Ext G2 Ht := by rw [← hHt]; exact ((Ext.refl _).push _).push _
      have y0 : Ht.get H0.next = some ⟨3, 1, 0, [[.v (.int .i64 stop)]], none⟩ := by rw [t5.get _ (by omega)]; exact v0
      have y1 : Ht.get (H0.next + 1) = some ⟨4, 1, 0, [[.v (.bool false)]], none⟩ := by rw [t5.get _ (by omega)]; exact v1
      have y2 : Ht.get H1.next = some (lnsBlk u) := by rw [t5.get _ (by omega)]; exact v2
      have y3 : Ht.get (H1.next + 1 + 1) = some ⟨3, 1, 0, [[.v (.int .i64 ((joinL ra).length : Int))]], none⟩ := by rw [t5.get _ (by omega)]; exact v3
      have y4 : Ht.get G2.next = some ⟨3, 1, 0, [[.v (.int .i64 (-1))]], none⟩ := by rw [← hHt]; simp (disch := (first | omega | exact zX | fail)) only [get_set, get_push, next_push, next_set, if_pos', if_neg', if_true, if_false, reduceIte]
      have y5 : Ht.get (G2.next + 1) = some (rwsBlk x) := by rw [← hHt]; simp (disch := (first | omega | exact zX | fail)) only [get_set, get_push, next_push, next_set, if_pos', if_neg', if_true, if_false, reduceIte]
      have lnU := fun G => lenL 0 (H0 := G) (.inl hu) hls G (Ext.refl _)
      refine V.rf rfl rfl ((Each1_wc (A := x) (es := es1) (rows := ra) (b := G2.next + 1) (CntI (Ht.wj (Ht.js ++ [.on])) G2.next (fun i => (i : Int) - 1) (fun i => ∀ j : Nat, j < i → (j : Int) ≠ stop)) (fun F => Ht.next ≤ F.next ∧ (∀ k, k < Ht.next → k ≠ G2.next → F.get k = Ht.get k) ∧ F.js = Ht.js ++ [.jump (.exit 2)] ∧ F.get G2.next = some ⟨3, 1, 0, [[.v (.int .i64 stop)]], none⟩ ∧ 0 ≤ stop ∧ stop < (joinL ra).length) hr1 (by omega) ?_ ?_ ?_ ?_).mono ?_)
      · intro i F hF
        have q1 := hF.nx
        rw [next_wj] at q1
        refine ⟨by rw [hF.kp _ (by rw [next_wj]; omega) (by omega)]; exact y5, by omega, hX.on (by omega) (fun k hk hk2 => by rw [hF.kp k (by rw [next_wj]; omega) (by omega), get_wj]; exact (x2.trans t5).get k hk2), by omega⟩
      · intro i F F' hF hx
        exact hF.on (by rw [next_wj]; omega) hx
      · intro i F xv hi hF hxv
        obtain ⟨q1, q2, q3, q4, q5⟩ := hF
        rw [next_wj] at q1
        have d0 : F.get H0.next = some ⟨3, 1, 0, [[.v (.int .i64 stop)]], none⟩ := by rw [q2 _ (by rw [next_wj]; omega) (by omega)]; exact y0
        have hc1 : cellsOf xv = some [xv] := cells_SlH (H := H1) (.inl hxv)
        by_cases his : (i : Int) = stop
        · refine YR.intro (find_self _ _ _) (by rw [q3]; exact js_on _) rfl rfl ?_
          repeat' (first | refine zka ?_ | refine zkb ?_ | (apply RKp.op; ((try simp (disch := (first | omega | exact zX | exact zO | fail)) only [go_sem, Nat.reduceDiv, Nat.reduceMod, Nat.reduceAdd, Nat.reduceSub, Nat.reduceEqDiff, Nat.reduceLeDiff, Nat.reduceLT, Nat.reduceMul, reduceIte, Nat.reducePow, Int.reduceEq]); exact zL); rfl) | refine zkc ?_ | apply RKg.tt | apply RKg.ff | refine zkd ?_ | refine zke ?_ | refine zkf ?_ | (refine RKg.split (fun h => ?_) (fun h => ?_) <;> (try rw [h]) <;> (replace h := zB h) <;> (try (exfalso; first | exact h | omega))) | apply RK.nil | apply V.sq | apply V.bl | apply V.sc | apply V.skip | apply V.label | apply V.ret | apply V.exit | apply SeqQ.normal | apply SeqQ.ret | apply SeqQ.exit | apply BlockQ.normal | apply BlockQ.ret | apply BlockQ.here | refine zbt ?_ | apply LoopS.ret | apply LoopS.exit | apply LoopF.ret | apply LoopF.exit | apply V.regK | refine zvd ?_ | refine zve ?_ | (refine zvf (fun h => ?_) (fun h => ?_) <;> (replace h := zB h) <;> (try (exfalso; first | exact h | omega))) | (refine FnQ.retB (resc Tryz.results4) (by simp (disch := (first | omega | exact zX | exact zO | fail)) only [cellR_op, go_sem, Nat.reduceDiv, Nat.reduceMod, Nat.reduceAdd, Nat.reduceSub, Nat.reduceEqDiff, Nat.reduceLeDiff, Nat.reduceLT, Nat.reduceMul, reduceIte, Nat.reducePow, Int.reduceEq]; rfl) ?_; (try dsimp only)))
          refine ⟨rfl, ?_⟩
          dsimp only
          repeat' (first | refine zka ?_ | refine zkb ?_ | (apply RKp.op; ((try simp (disch := (first | omega | exact zX | exact zO | fail)) only [q4, d0, hc1, Int.toNat_natCast, go_sem, Nat.reduceDiv, Nat.reduceMod, Nat.reduceAdd, Nat.reduceSub, Nat.reduceEqDiff, Nat.reduceLeDiff, Nat.reduceLT, Nat.reduceMul, reduceIte, Nat.reducePow, Int.reduceEq]); exact zL); rfl) | refine zkc ?_ | apply RKg.tt | apply RKg.ff | refine zkd ?_ | refine zke ?_ | refine zkf ?_ | (refine RKg.split (fun h => ?_) (fun h => ?_) <;> (try rw [h]) <;> (replace h := zB h) <;> (try (exfalso; first | exact h | omega))) | apply RK.nil | apply V.sq | apply V.bl | apply V.sc | apply V.skip | apply V.label | apply V.ret | apply V.exit | apply SeqQ.normal | apply SeqQ.ret | apply SeqQ.exit | apply BlockQ.normal | apply BlockQ.ret | apply BlockQ.here | refine zbt ?_ | apply LoopS.ret | apply LoopS.exit | apply LoopF.ret | apply LoopF.exit | apply V.regK | refine zvd ?_ | refine zve ?_ | (refine zvf (fun h => ?_) (fun h => ?_) <;> (replace h := zB h) <;> (try (exfalso; first | exact h | omega))) | (refine FnQ.retB (resc Tryz.results4) (by simp (disch := (first | omega | exact zX | exact zO | fail)) only [cellR_op, q4, d0, hc1, Int.toNat_natCast, go_sem, Nat.reduceDiv, Nat.reduceMod, Nat.reduceAdd, Nat.reduceSub, Nat.reduceEqDiff, Nat.reduceLeDiff, Nat.reduceLT, Nat.reduceMul, reduceIte, Nat.reducePow, Int.reduceEq]; rfl) ?_; (try dsimp only)))
          all_goals first
            | (exfalso; omega)
            | skip
          refine .inr ⟨rfl, by rw [next_wj, next_set, next_wj]; omega, fun k hk hkn => ?_, ?_, ?_, by omega, by omega⟩
          · rw [get_wj, get_set, if_neg (Ne.symm hkn), get_wj, q2 k (by rw [next_wj]; omega) hkn, get_wj]
          · rw [js_wj, js_set, js_wj, q3, js_wj, js_off, js_off]
          · rw [get_wj, get_set, if_pos rfl, his]
        · refine YR.intro (find_self _ _ _) (by rw [q3]; exact js_on _) rfl rfl ?_
          repeat' (first | refine zka ?_ | refine zkb ?_ | (apply RKp.op; ((try simp (disch := (first | omega | exact zX | exact zO | fail)) only [go_sem, Nat.reduceDiv, Nat.reduceMod, Nat.reduceAdd, Nat.reduceSub, Nat.reduceEqDiff, Nat.reduceLeDiff, Nat.reduceLT, Nat.reduceMul, reduceIte, Nat.reducePow, Int.reduceEq]); exact zL); rfl) | refine zkc ?_ | apply RKg.tt | apply RKg.ff | refine zkd ?_ | refine zke ?_ | refine zkf ?_ | (refine RKg.split (fun h => ?_) (fun h => ?_) <;> (try rw [h]) <;> (replace h := zB h) <;> (try (exfalso; first | exact h | omega))) | apply RK.nil | apply V.sq | apply V.bl | apply V.sc | apply V.skip | apply V.label | apply V.ret | apply V.exit | apply SeqQ.normal | apply SeqQ.ret | apply SeqQ.exit | apply BlockQ.normal | apply BlockQ.ret | apply BlockQ.here | refine zbt ?_ | apply LoopS.ret | apply LoopS.exit | apply LoopF.ret | apply LoopF.exit | apply V.regK | refine zvd ?_ | refine zve ?_ | (refine zvf (fun h => ?_) (fun h => ?_) <;> (replace h := zB h) <;> (try (exfalso; first | exact h | omega))) | (refine FnQ.retB (resc Tryz.results4) (by simp (disch := (first | omega | exact zX | exact zO | fail)) only [cellR_op, go_sem, Nat.reduceDiv, Nat.reduceMod, Nat.reduceAdd, Nat.reduceSub, Nat.reduceEqDiff, Nat.reduceLeDiff, Nat.reduceLT, Nat.reduceMul, reduceIte, Nat.reducePow, Int.reduceEq]; rfl) ?_; (try dsimp only)))
          refine ⟨rfl, ?_⟩
          dsimp only
          repeat' (first | refine zka ?_ | refine zkb ?_ | (apply RKp.op; ((try simp (disch := (first | omega | exact zX | exact zO | fail)) only [q4, d0, hc1, Int.toNat_natCast, go_sem, Nat.reduceDiv, Nat.reduceMod, Nat.reduceAdd, Nat.reduceSub, Nat.reduceEqDiff, Nat.reduceLeDiff, Nat.reduceLT, Nat.reduceMul, reduceIte, Nat.reducePow, Int.reduceEq]); exact zL); rfl) | refine zkc ?_ | apply RKg.tt | apply RKg.ff | refine zkd ?_ | refine zke ?_ | refine zkf ?_ | (refine RKg.split (fun h => ?_) (fun h => ?_) <;> (try rw [h]) <;> (replace h := zB h) <;> (try (exfalso; first | exact h | omega))) | apply RK.nil | apply V.sq | apply V.bl | apply V.sc | apply V.skip | apply V.label | apply V.ret | apply V.exit | apply SeqQ.normal | apply SeqQ.ret | apply SeqQ.exit | apply BlockQ.normal | apply BlockQ.ret | apply BlockQ.here | refine zbt ?_ | apply LoopS.ret | apply LoopS.exit | apply LoopF.ret | apply LoopF.exit | apply V.regK | refine zvd ?_ | refine zve ?_ | (refine zvf (fun h => ?_) (fun h => ?_) <;> (replace h := zB h) <;> (try (exfalso; first | exact h | omega))) | (refine FnQ.retB (resc Tryz.results4) (by simp (disch := (first | omega | exact zX | exact zO | fail)) only [cellR_op, q4, d0, hc1, Int.toNat_natCast, go_sem, Nat.reduceDiv, Nat.reduceMod, Nat.reduceAdd, Nat.reduceSub, Nat.reduceEqDiff, Nat.reduceLeDiff, Nat.reduceLT, Nat.reduceMul, reduceIte, Nat.reducePow, Int.reduceEq]; rfl) ?_; (try dsimp only)))
          all_goals first
            | (exfalso; omega)
            | skip
          refine .inl ⟨rfl, ⟨by rw [next_wj, next_wj, next_set, next_wj]; omega, fun k hk hkn => ?_, ?_, ?_, fun j hj => ?_⟩⟩
          · rw [next_wj] at hk
            rw [get_wj, get_set, if_neg (Ne.symm hkn), get_wj, q2 k (by rw [next_wj]; omega) hkn]
          · rw [js_wj, js_set, js_wj, q3, js_wj, js_off, js_off]
          · rw [get_wj, get_set, if_pos rfl]
            have : ((i + 1 : Nat) : Int) - 1 = (i : Int) := by omega
            rw [this]
          · rcases Nat.lt_or_ge j i with z | z
            · exact q5 j z
            · obtain rfl : j = i := by omega
              exact his
      · exact ⟨Nat.le_refl _, fun k _ _ => rfl, rfl, by rw [get_wj]; exact y4, fun j hj => absurd hj (Nat.not_lt_zero _)⟩
      · rintro r2 F (hF | hF)
        · obtain ⟨q1, q2, q3, q4, q5⟩ := hF
          rw [next_wj] at q1
          have e : F.js[Ht.js.length]? = some .on := by rw [q3]; exact js_on _
          rw [e]
          dsimp only
          have d0 : F.get H0.next = some ⟨3, 1, 0, [[.v (.int .i64 stop)]], none⟩ := by rw [q2 _ (by rw [next_wj]; omega) (by omega)]; exact y0
          have d1 : F.get (H0.next + 1) = some ⟨4, 1, 0, [[.v (.bool false)]], none⟩ := by rw [q2 _ (by rw [next_wj]; omega) (by omega)]; exact y1
          have d2 : F.get H1.next = some (lnsBlk u) := by rw [q2 _ (by rw [next_wj]; omega) (by omega)]; exact y2
          have d3 : F.get (H1.next + 1 + 1) = some ⟨3, 1, 0, [[.v (.int .i64 ((joinL ra).length : Int))]], none⟩ := by rw [q2 _ (by rw [next_wj]; omega) (by omega)]; exact y3
          have hns : ¬ (0 ≤ stop ∧ stop < (joinL ra).length) := fun z => q5 stop.toNat (by omega) (by omega)
          repeat' (first | refine zka ?_ | refine zkb ?_ | (apply RKp.op; ((try simp (disch := (first | omega | exact zX | exact zO | fail)) only [d0, d1, d2, d3, q4, lnU, go_sem, Nat.reduceDiv, Nat.reduceMod, Nat.reduceAdd, Nat.reduceSub, Nat.reduceEqDiff, Nat.reduceLeDiff, Nat.reduceLT, Nat.reduceMul, reduceIte, Nat.reducePow, Int.reduceEq]); exact zL); rfl) | refine zkc ?_ | apply RKg.tt | apply RKg.ff | refine zkd ?_ | refine zke ?_ | refine zkf ?_ | (refine RKg.split (fun h => ?_) (fun h => ?_) <;> (try rw [h]) <;> (replace h := zB h) <;> (try (exfalso; first | exact h | omega))) | apply RK.nil | apply V.sq | apply V.bl | apply V.sc | apply V.skip | apply V.label | apply V.ret | apply V.exit | apply SeqQ.normal | apply SeqQ.ret | apply SeqQ.exit | apply BlockQ.normal | apply BlockQ.ret | apply BlockQ.here | refine zbt ?_ | apply LoopS.ret | apply LoopS.exit | apply LoopF.ret | apply LoopF.exit | apply V.regK | refine zvd ?_ | refine zve ?_ | (refine zvf (fun h => ?_) (fun h => ?_) <;> (replace h := zB h) <;> (try (exfalso; first | exact h | omega))) | (refine FnQ.retB (resc Tryz.results4) (by simp (disch := (first | omega | exact zX | exact zO | fail)) only [cellR_op, d0, d1, d2, d3, q4, lnU, go_sem, Nat.reduceDiv, Nat.reduceMod, Nat.reduceAdd, Nat.reduceSub, Nat.reduceEqDiff, Nat.reduceLeDiff, Nat.reduceLT, Nat.reduceMul, reduceIte, Nat.reducePow, Int.reduceEq]; rfl) ?_; (try dsimp only)))
          all_goals first
            | (exfalso; omega)
            | (simp; done)
            | trace_state
        · obtain ⟨q1, q2, q3, q4, q5, q6⟩ := hF
          have e : F.js[Ht.js.length]? = some (.jump (.exit 2)) := by rw [q3]; simp
          rw [e]
          dsimp only
          have d0 : F.get H0.next = some ⟨3, 1, 0, [[.v (.int .i64 stop)]], none⟩ := by rw [q2 _ (by omega) (by omega)]; exact y0
          have d1 : F.get (H0.next + 1) = some ⟨4, 1, 0, [[.v (.bool false)]], none⟩ := by rw [q2 _ (by omega) (by omega)]; exact y1
          have d2 : F.get H1.next = some (lnsBlk u) := by rw [q2 _ (by omega) (by omega)]; exact y2
          have d3 : F.get (H1.next + 1 + 1) = some ⟨3, 1, 0, [[.v (.int .i64 ((joinL ra).length : Int))]], none⟩ := by rw [q2 _ (by omega) (by omega)]; exact y3
          repeat' (first | refine zka ?_ | refine zkb ?_ | (apply RKp.op; ((try simp (disch := (first | omega | exact zX | exact zO | fail)) only [d0, d1, d2, d3, q4, lnU, go_sem, Nat.reduceDiv, Nat.reduceMod, Nat.reduceAdd, Nat.reduceSub, Nat.reduceEqDiff, Nat.reduceLeDiff, Nat.reduceLT, Nat.reduceMul, reduceIte, Nat.reducePow, Int.reduceEq]); exact zL); rfl) | refine zkc ?_ | apply RKg.tt | apply RKg.ff | refine zkd ?_ | refine zke ?_ | refine zkf ?_ | (refine RKg.split (fun h => ?_) (fun h => ?_) <;> (try rw [h]) <;> (replace h := zB h) <;> (try (exfalso; first | exact h | omega))) | apply RK.nil | apply V.sq | apply V.bl | apply V.sc | apply V.skip | apply V.label | apply V.ret | apply V.exit | apply SeqQ.normal | apply SeqQ.ret | apply SeqQ.exit | apply BlockQ.normal | apply BlockQ.ret | apply BlockQ.here | refine zbt ?_ | apply LoopS.ret | apply LoopS.exit | apply LoopF.ret | apply LoopF.exit | apply V.regK | refine zvd ?_ | refine zve ?_ | (refine zvf (fun h => ?_) (fun h => ?_) <;> (replace h := zB h) <;> (try (exfalso; first | exact h | omega))) | (refine FnQ.retB (resc Tryz.results4) (by simp (disch := (first | omega | exact zX | exact zO | fail)) only [cellR_op, d0, d1, d2, d3, q4, lnU, go_sem, Nat.reduceDiv, Nat.reduceMod, Nat.reduceAdd, Nat.reduceSub, Nat.reduceEqDiff, Nat.reduceLeDiff, Nat.reduceLT, Nat.reduceMul, reduceIte, Nat.reducePow, Int.reduceEq]; rfl) ?_; (try dsimp only)))
          all_goals first
            | (exfalso; omega)
            | (simp; done)
            | trace_state
    · exact hG.elim
end
theorem LineEach_run (v : List AV) (hv : Wd Tryz.prog 6 22 v) (w : Int) (hw : (Lit.int .i64 w).wf = true) : WC EF [] 0 4 [v.getD 0 .dead, .v (.int .i64 w)] .empty fun x _ => x = .v (.bool true) := by
  obtain ⟨A, es, a, rfl, hA, hlen, hE⟩ := wd_rowsS (d := 1) hv
  exact LineEach_law (fun ys lo H => begun_F) hA hlen hE w (i64_wf hw)
end Go.Am
